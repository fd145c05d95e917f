/- Lemmas of this claim. No condition. -/
import Derived.Test.YtdnpmapelmjfpaaGreatDoorLwy
import Derived.Great.Walk
import Derived.Great.BuildSlice
set_option maxHeartbeats 8000000
set_option linter.unusedVariables false
set_option linter.unusedSimpArgs false
set_option maxRecDepth 100000
namespace Go.Proofs.YtdnpmapelmjfpaaGreatDoor
theorem zc2 {k:Nat} {d:List UInt8} {p v p':Nat} (h:zal k d p=.ok (v,p')):p'=p+k∧p+k≤d.length∧v=be ((d.drop p).take k):=by
 unfold zal at h;split at h
 ·cases h
 ·injection h with h;injection h with h1 h2;exact⟨h2.symm,by omega,h1.symm⟩
theorem zcv {k:Nat} {d:List UInt8} {p x:Nat} (h:zal k d p=.error x):x=4∧d.length<p+k:=by
 unfold zal at h;split at h
 ·injection h with h;exact⟨h.symm,by omega⟩
 ·cases h
theorem zi5 {k p:Nat} {d:List UInt8} (h:p+k≤d.length):zal k d p=.ok (be ((d.drop p).take k),p+k):=by unfold zal;rw[if_neg (by omega)]
def zfq (l:List OpD):Except Nat (List OpD)→Except Nat (List OpD)
 | .error e=>.error e
 | .ok m=>.ok (l++m)
theorem zr4 (x:Except Nat (List OpD)):zfq [] x=x:=by cases x<;>rfl
theorem ztm {d:List UInt8} {p f:Nat} (hp:p<d.length) (hf:(d.drop p).length<f):
 (d.length<p+4∧zdm f (d.drop p)=.error 4)∨
 (p+4≤d.length∧d.length<p+4+n16 d (p+2)∧zdm f (d.drop p)=.error 4)∨
 (p+4+n16 d (p+2)≤d.length∧∃f',(d.drop (p+4+n16 d (p+2))).length<f'∧∀l,zfq l (zdm f (d.drop p))=zfq (l++[⟨n16 d p,(d.drop (p+4)).take (n16 d (p+2))⟩]) (zdm f' (d.drop (p+4+n16 d (p+2))))):=by
 obtain⟨D,hD⟩:∃D,D=d.drop p:=⟨_,rfl⟩
 have hl:D.length=d.length - p:=by rw[hD,List.length_drop]
 have h2:d.drop (p+2)=D.drop 2:=by rw[hD,List.drop_drop]
 have h4:d.drop (p+4)=D.drop 4:=by rw[hD,List.drop_drop]
 have hn:n16 d (p+2)=be ((D.drop 2).take 2):=by unfold n16;rw[h2]
 have qH:n16 d p=be (D.take 2):=by unfold n16;rw[←hD]
 have h5:d.drop (p+4+n16 d (p+2))=D.drop (4+n16 d (p+2)):=by rw[hD,List.drop_drop,Nat.add_assoc]
 rw[←hD]at hf ⊢;have au:¬D=[]:=fun e=>by rw[e]at hl;simp at hl;omega
 obtain⟨f',rfl⟩:∃f',f=f'+1:=⟨f - 1,by omega⟩
 have hu:zdm (f'+1) D=(if D=[]then .ok []else if D.length<4 then .error 4 else if D.length<4+be ((D.drop 2).take 2)then .error 4
  else match zdm f' (D.drop (4+be ((D.drop 2).take 2)))with
   | .error e=>.error e
   | .ok l=>.ok (⟨be (D.take 2),(D.drop 4).take (be ((D.drop 2).take 2))⟩::l)):=rfl
 rw[if_neg au]at hu;by_cases c1:D.length<4
 ·rw[if_pos c1]at hu;exact .inl ⟨by omega,hu⟩
 ·rw[if_neg c1,←hn,←qH]at hu;by_cases c2:D.length<4+n16 d (p+2)
  ·rw[if_pos c2]at hu;exact .inr (.inl ⟨by omega,by omega,hu⟩)
  ·rw[if_neg c2]at hu;refine .inr (.inr ⟨by omega,f',by rw[h5,List.length_drop];omega,fun l=>?_⟩)
   rw[hu,h5,h4];cases zdm f' (D.drop (4+n16 d (p+2)))with
   |error e=>rfl
   |ok m=>simp[zfq]
theorem zwm (f:Nat) (hf:0<f):zdm f []=.ok []:=by
 obtain⟨f',rfl⟩:∃f',f=f'+1:=⟨f - 1,by omega⟩
 rfl
def zfr (l:List QD):Except Nat (List QD×Nat)→Except Nat (List QD×Nat)
 | .error e=>.error e
 | .ok (m,p)=>.ok (l++m,p)
theorem zr5 (x:Except Nat (List QD×Nat)):zfr [] x=x:=by rcases x with _|⟨_,_⟩<;>rfl
theorem ztw {d:List UInt8} {k p p':Nat} {q:QD} (l:List QD) (h:quR d p=.ok (q,p')):zfr l (zbt d (k+1) p)=zfr (l++[q]) (zbt d k p'):=by
 show zfr l (match quR d p with
  | .error e=>.error e
  | .ok (q,p)=>match zbt d k p with
    | .error e=>.error e
    | .ok (l,p)=>.ok (q::l,p))=_
 rw[h];dsimp only;rcases zbt d k p' with e|⟨m,p2⟩
 ·rfl
 ·simp[zfr]
theorem zmw {d:List UInt8} {k p x:Nat} (l:List QD) (h:quR d p=.error x):zfr l (zbt d (k+1) p)=.error x:=by
 show zfr l (match quR d p with
  | .error e=>.error e
  | .ok (q,p)=>match zbt d k p with
    | .error e=>.error e
    | .ok (l,p)=>.ok (q::l,p))=_
 rw[h];rfl
def zgf (l:List RecD):Except Nat (List RecD×Option EdD×Nat)→Except Nat (List RecD×Option EdD×Nat)
 | .error e=>.error e
 | .ok (m,x,p)=>.ok (l++m,x,p)
theorem zxy (x:Except Nat (List RecD×Option EdD×Nat)):zgf [] x=x:=by rcases x with _|⟨_,_,_⟩<;>rfl
theorem zrh {d:List UInt8} {more:Bool} {k p p':Nat} {ed ed':Option EdD} {r:Option RecD} (l:List RecD) (h:zbd d more ed p=.ok (r,ed',p')):zgf l (zao d more (k+1) ed p)=zgf (l++r.toList) (zao d more k ed' p'):=by
 show zgf l (match zbd d more ed p with
  | .error e=>.error e
  | .ok (r,ed,p)=>match zao d more k ed p with
    | .error e=>.error e
    | .ok (l,ed,p)=>.ok (r.toList++l,ed,p))=_
 rw[h];dsimp only;rcases zao d more k ed' p' with e|⟨m,x2,p2⟩
 ·rfl
 ·simp[zgf]
theorem zeh {d:List UInt8} {more:Bool} {k p x:Nat} {ed:Option EdD} (l:List RecD) (h:zbd d more ed p=.error x):zgf l (zao d more (k+1) ed p)=.error x:=by
 show zgf l (match zbd d more ed p with
  | .error e=>.error e
  | .ok (r,ed,p)=>match zao d more k ed p with
    | .error e=>.error e
    | .ok (l,ed,p)=>.ok (r.toList++l,ed,p))=_
 rw[h];rfl
theorem zgr {d n:List UInt8} {p p':Nat} (h:zbj d p=.ok (n,p')):readN d p=(n,p',0):=by
 unfold zbj at h;split at h
 ·rename_i h0;injection h with h;injection h with h1 h2
  rw[←h1,←h2,←h0]
 ·cases h
theorem zim {d:List UInt8} {p x:Nat} (h:zbj d p=.error x):x≠0∧(readN d p).2.2=x:=by
 unfold zbj at h;split at h
 ·cases h
 ·rename_i h0;injection h with h
  exact⟨by rw[←h];exact h0,h⟩
theorem ztk:∀(f:Nat) (d:List UInt8) (k:Nat),zdm f d=.error k→k=4
 |0,d,k,h=>by cases h
 |f+1,d,k,h=>by
  have hu:zdm (f+1) d=(if d=[]then .ok []else if d.length<4 then .error 4 else if d.length<4+be ((d.drop 2).take 2)then .error 4
   else match zdm f (d.drop (4+be ((d.drop 2).take 2)))with
    | .error e=>.error e
    | .ok l=>.ok (⟨be (d.take 2),(d.drop 4).take (be ((d.drop 2).take 2))⟩::l)):=rfl
  rw[hu]at h;split at h
  ·cases h
  ·split at h
   ·injection h with h;exact h.symm
   ·split at h
    ·injection h with h;exact h.symm
    ·rcases h2:zdm f (d.drop (4+be ((d.drop 2).take 2)))with e|l
     ·rw[h2]at h;injection h with h
      subst h;exact ztk f _ _ h2
     ·rw[h2]at h;cases h
theorem zwb {cls ttl k:Nat} {d:List UInt8} (h:edR cls ttl d=.error k):k=4:=by
 unfold edR at h;rcases h2:zqa d with e|l
 ·rw[h2]at h;injection h with h
  subst h;exact ztk _ _ _ h2
 ·rw[h2]at h;cases h
section
variable {d n : List UInt8} {more : Bool} {ed : Option EdD} {p p1 p2 p3 p4 p5 ty cl tt sz x : Nat} {y : EdD}
theorem zk1 (h:zbj d p=.error x):zbd d more ed p=.error x:=by unfold zbd;rw[h]
theorem zk2 (h:zbj d p=.ok (n,p1)) (h1:zal 2 d p1=.error x):zbd d more ed p=.error x:=by unfold zbd;rw[h];dsimp only;rw[h1]
theorem zk3 (h:zbj d p=.ok (n,p1)) (h1:zal 2 d p1=.ok (ty,p2)) (h2:zal 2 d p2=.error x):zbd d more ed p=.error x:=by unfold zbd;rw[h];dsimp only;rw[h1];dsimp only;rw[h2]
theorem zk4 (h:zbj d p=.ok (n,p1)) (h1:zal 2 d p1=.ok (ty,p2)) (h2:zal 2 d p2=.ok (cl,p3)) (h3:zal 4 d p3=.error x):zbd d more ed p=.error x:=by
 unfold zbd;rw[h];dsimp only;rw[h1];dsimp only;rw[h2];dsimp only;rw[h3]
theorem zk5 (h:zbj d p=.ok (n,p1)) (h1:zal 2 d p1=.ok (ty,p2)) (h2:zal 2 d p2=.ok (cl,p3)) (h3:zal 4 d p3=.ok (tt,p4)) (h4:zal 2 d p4=.error x):zbd d more ed p=.error x:=by
 unfold zbd;rw[h];dsimp only;rw[h1];dsimp only;rw[h2];dsimp only;rw[h3];dsimp only;rw[h4]
theorem zk0 (h:zbj d p=.ok (n,p1)) (h1:zal 2 d p1=.ok (ty,p2)) (h2:zal 2 d p2=.ok (cl,p3)) (h3:zal 4 d p3=.ok (tt,p4)) (h4:zal 2 d p4=.ok (sz,p5)):
 zbd d more ed p=if d.length<p5+sz then .error 4
  else if ty=41 then
   (if more=false∨ed.isSome=true∨n≠[0]then .error 3
    else match edR cl tt ((d.drop p5).take sz)with
     | .error e=>.error e
     | .ok x=>.ok (none,some x,p5+sz))
  else if(splitOf (d.take (p5+sz)) p5 ty).2=0 then .ok (some ⟨n,ty,cl,tt,textOf (splitOf (d.take (p5+sz)) p5 ty).1⟩,ed,p5+sz)
  else .error (splitOf (d.take (p5+sz)) p5 ty).2:=by
 unfold zbd;rw[h];dsimp only;rw[h1];dsimp only;rw[h2];dsimp only;rw[h3];dsimp only;rw[h4];dsimp only<;>rfl
end
theorem zqe {msg:List UInt8}:∀{k pos p:Nat} {l:List QD},zbt msg k pos=.ok (l,p)→∀q∈l,q.name.length≤255
 |0,pos,p,l,h=>by
  have h':(Except.ok ([],pos):Except Nat (List QD×Nat))=.ok (l,p):=h
  injection h' with h';injection h' with h1 h2
  rw[←h1];intro q hq;cases hq
 |k+1,pos,p,l,h=>by
  have hu:zbt msg (k+1) pos=(match quR msg pos with
   | .error e=>.error e
   | .ok (q,p)=>match zbt msg k p with
     | .error e=>.error e
     | .ok (l,p)=>.ok (q::l,p)):=rfl
  rw[hu]at h;rcases h1:quR msg pos with e|⟨q,p1⟩
  ·rw[h1]at h;cases h
  rw[h1]at h;dsimp only at h;rcases h2:zbt msg k p1 with e|⟨l2,p2⟩
  ·rw[h2]at h;cases h
  rw[h2]at h;dsimp only at h;injection h with h;injection h with h3 h4
  rw[←h3];intro q' rb;rcases List.mem_cons.1 rb with rfl|rb
  ·unfold quR at h1;rcases h5:zbj msg pos with e|⟨n,p5⟩
   ·rw[h5]at h1;cases h1
   rw[h5]at h1;dsimp only at h1;rcases h6:zal 2 msg p5 with e|⟨t,p6⟩
   ·rw[h6]at h1;cases h1
   rw[h6]at h1;dsimp only at h1;rcases h7:zal 2 msg p6 with e|⟨c,p7⟩
   ·rw[h7]at h1;cases h1
   rw[h7]at h1;dsimp only at h1;injection h1 with h1;injection h1 with h8 h9
   have:=(ze2 msg pos).2
   rw[zgr h5]at this;rw[←h8];exact this
  ·exact zqe h2 q' rb
theorem zpo (l:List Pc) (b:Nat) (h:∀p∈l,p.text.length≤b):(textOf l).length≤l.length*b:=by
 induction l with
 |nil=>simp[textOf]
 |cons x l ih=>
  have h1:=h x (by simp)
  have h2:=ih (fun p hp=>h p (by simp[hp]))
  simp only[textOf,List.flatMap_cons,Z6,List.length_cons,Nat.succ_mul]at h2 ⊢;omega
theorem zFl {msg:List UInt8} (hm:msg.length≤65535) {more:Bool} {ed ed':Option EdD} {pos p:Nat} {r:RecD} (h:zbd msg more ed pos=.ok (some r,ed',p)):r.name.length≤255∧r.data.length≤262144:=by
 rcases h1:zbj msg pos with e|⟨n,p1⟩
 ·rw[zk1 h1]at h;cases h
 rcases h2:zal 2 msg p1 with e|⟨ty,p2⟩
 ·rw[zk2 h1 h2]at h;cases h
 rcases h3:zal 2 msg p2 with e|⟨cl,p3⟩
 ·rw[zk3 h1 h2 h3]at h;cases h
 rcases h4:zal 4 msg p3 with e|⟨tt,p4⟩
 ·rw[zk4 h1 h2 h3 h4]at h;cases h
 rcases h5:zal 2 msg p4 with e|⟨sz,p5⟩
 ·rw[zk5 h1 h2 h3 h4 h5]at h;cases h
 rw[zk0 h1 h2 h3 h4 h5]at h;split at h
 ·cases h
 ·split at h
  ·split at h
   ·cases h
   ·rcases h6:edR cl tt ((msg.drop p5).take sz)with e|y
    ·rw[h6]at h;cases h
    ·rw[h6]at h;dsimp only at h;injection h with h;injection h with h _;cases h
  ·split at h
   ·injection h with h;injection h with h h'
    injection h with h
    rw[←h];have hn:=(ze2 msg pos).2
    rw[zgr h1]at hn;refine⟨hn,?_⟩;have hl:(msg.take (p5+sz)).length≤65535:=by rw[List.length_take];omega
    have re:p5≤(msg.take (p5+sz)).length:=by have:=(zc2 h5).2.1;have:=(zc2 h5).1;rw[List.length_take];omega
    have hb:=zgn (msg.take (p5+sz)) p5 ty re
    have:=zpo _ _ hb.2
    have h3:(splitOf (msg.take (p5+sz)) p5 ty).1.length*((msg.take (p5+sz)).length+255)≤3*(65535+255):=Nat.mul_le_mul hb.1 (by omega)
    dsimp only;omega
   ·cases h
theorem zfz {msg:List UInt8} (hm:msg.length≤65535) {more:Bool}:∀{k:Nat} {ed ed':Option EdD} {pos p:Nat} {l:List RecD},zao msg more k ed pos=.ok (l,ed',p)→l.length≤k∧∀r∈l,r.name.length≤255∧r.data.length≤262144
 |0,ed,ed',pos,p,l,h=>by
  have h':(Except.ok ([],ed,pos):Except Nat (List RecD×Option EdD×Nat))=.ok (l,ed',p):=h
  injection h' with h';injection h' with h1 h2
  rw[←h1];exact⟨Z4 _,fun r hr=>by cases hr⟩
 |k+1,ed,ed',pos,p,l,h=>by
  have hu:zao msg more (k+1) ed pos=(match zbd msg more ed pos with
   | .error e=>.error e
   | .ok (r,ed,p)=>match zao msg more k ed p with
     | .error e=>.error e
     | .ok (l,ed,p)=>.ok (r.toList++l,ed,p)):=rfl
  rw[hu]at h;rcases h1:zbd msg more ed pos with e|⟨r,ed1,p1⟩
  ·rw[h1]at h;cases h
  rw[h1]at h;dsimp only at h;rcases h2:zao msg more k ed1 p1 with e|⟨l2,ed2,p2⟩
  ·rw[h2]at h;cases h
  rw[h2]at h;dsimp only at h;injection h with h;injection h with h3 h4
  have ih:=zfz hm h2
  rw[←h3];rcases r with _|r
  ·exact⟨by simp only[Option.toList_none,List.nil_append];omega,by simpa using ih.2⟩
  ·refine⟨by simp only[Option.toList_some,List.cons_append,List.nil_append,List.length_cons];omega,fun r' hr=>?_⟩
   simp only[Option.toList_some,List.cons_append,List.nil_append,List.mem_cons]at hr;rcases hr with rfl|hr
   ·exact zFl hm h1
   ·exact ih.2 r' hr
section
variable {msg : List UInt8} {qs : List QD} {a u xs : List RecD} {e1 e2 e3 : Option EdD} {p p1 p2 p3 x : Nat} {m : MsgD}
theorem zib (h:zbt msg (n16 msg 4) 12=.error x):zbi msg=.error x:=by unfold zbi;rw[h]
theorem zsl (h:zbt msg (n16 msg 4) 12=.ok (qs,p)) (h1:zao msg false (n16 msg 6) none p=.error x):zbi msg=.error x:=by unfold zbi;rw[h];dsimp only;rw[h1]
theorem zsm (h:zbt msg (n16 msg 4) 12=.ok (qs,p)) (h1:zao msg false (n16 msg 6) none p=.ok (a,e1,p1)) (h2:zao msg false (n16 msg 8) e1 p1=.error x):zbi msg=.error x:=by
 unfold zbi;rw[h];dsimp only;rw[h1];dsimp only;rw[h2]
theorem zsn (h:zbt msg (n16 msg 4) 12=.ok (qs,p)) (h1:zao msg false (n16 msg 6) none p=.ok (a,e1,p1)) (h2:zao msg false (n16 msg 8) e1 p1=.ok (u,e2,p2)) (h3:zao msg true (n16 msg 10) e2 p2=.error x):zbi msg=.error x:=by
 unfold zbi;rw[h];dsimp only;rw[h1];dsimp only;rw[h2];dsimp only;rw[h3]
theorem zso (h:zbt msg (n16 msg 4) 12=.ok (qs,p)) (h1:zao msg false (n16 msg 6) none p=.ok (a,e1,p1)) (h2:zao msg false (n16 msg 8) e1 p1=.ok (u,e2,p2)) (h3:zao msg true (n16 msg 10) e2 p2=.ok (xs,e3,p3)):
 zbi msg=.ok (⟨za1 (n16 msg 0) (n16 msg 2),qs,a,u,xs,e3.isSome,e3.getD za8⟩,p3):=by
 unfold zbi;rw[h];dsimp only;rw[h1];dsimp only;rw[h2];dsimp only;rw[h3]
theorem zif (h1:¬65535<msg.length) (h2:¬msg.length<12) (h:zbi msg=.error x):zct msg=.error x:=by
 unfold zct;rw[if_neg h1,if_neg h2,h]
theorem zq3 (h1:¬65535<msg.length) (h2:¬msg.length<12) (h:zbi msg=.ok (m,p)):zct msg=if p<msg.length then .error 5 else if zau m=0 then .ok m else .error (zau m):=by
 unfold zct;rw[if_neg h1,if_neg h2,h]
theorem zB1 (h:zbj msg p=.error x):quR msg p=.error x:=by unfold quR;rw[h]
theorem zB2 {n:List UInt8} (h:zbj msg p=.ok (n,p1)) (h1:zal 2 msg p1=.error x):quR msg p=.error x:=by unfold quR;rw[h];dsimp only;rw[h1]
theorem zB3 {n:List UInt8} {t:Nat} (h:zbj msg p=.ok (n,p1)) (h1:zal 2 msg p1=.ok (t,p2)) (h2:zal 2 msg p2=.error x):quR msg p=.error x:=by unfold quR;rw[h];dsimp only;rw[h1];dsimp only;rw[h2]
theorem zB4 {n:List UInt8} {t c:Nat} (h:zbj msg p=.ok (n,p1)) (h1:zal 2 msg p1=.ok (t,p2)) (h2:zal 2 msg p2=.ok (c,p3)):quR msg p=.ok (⟨n,t,c⟩,p3):=by unfold quR;rw[h];dsimp only;rw[h1];dsimp only;rw[h2]
end
end Go.Proofs.YtdnpmapelmjfpaaGreatDoor
namespace Go.Proofs.YtdnpmapelmjfpaaGreatDoor
open Go.RowKit
section
variable {P : Program}
theorem zgl {fn:Func} {p q u:Tmp} {ty ty2:TypeId} (h:fn.results= #[.cell p ty,.cell q ty2,.tmp u]) (tmps:Array Value) (w:World) (g g2:Nat) (t t2:TypeId) (cs cs2:Array Value) (fr fr2:Nat×Nat) (d d2:TypeDesc)
 (hp:tmps.getD p undef=.pointer (some ⟨g,0,none⟩)) (hg:w.heap[g]? =some (.cells cs t fr))
 (hu:P.underlying ty=some d) (hd:(match d with| .struct _| .array _ _=>true|_=>false)=true) (hi:(P.info? ty).map (·.size)=some cs.size)
 (hq:tmps.getD q undef=.pointer (some ⟨g2,0,none⟩)) (ci:w.heap[g2]? =some (.cells cs2 t2 fr2))
 (kp:P.underlying ty2=some d2) (uw:(match d2 with| .struct _| .array _ _=>true|_=>false)=true) (Dn:(P.info? ty2).map (·.size)=some cs2.size):
 (results fn tmps).run P w=.ok (.tuple #[.agg cs,.agg cs2,tmps.getD u undef]) w:=by
 have de:tmps[p]?.getD undef=.pointer (some ⟨g,0,none⟩):=by simpa using hp
 have rb:tmps[q]?.getD undef=.pointer (some ⟨g2,0,none⟩):=by simpa using hq
 simp[results,h,de,rb,asAddr,run_loadVar_row w g t ty cs fr d hg hu hd hi,run_loadVar_row w g2 t2 ty2 cs2 fr2 d2 ci kp uw Dn]
theorem zas {fn:Func} {p u:Tmp} {ty:TypeId} (h:fn.results= #[.cell p ty,.tmp u]) (tmps:Array Value) (w:World) (g:Nat) (t:TypeId) (cs:Array Value) (fr:Nat×Nat) (d:TypeDesc)
 (hp:tmps.getD p undef=.pointer (some ⟨g,0,none⟩)) (hg:w.heap[g]? =some (.cells cs t fr))
 (hu:P.underlying ty=some d) (hd:(match d with| .struct _| .array _ _=>true|_=>false)=true) (hi:(P.info? ty).map (·.size)=some cs.size):
 (results fn tmps).run P w=.ok (.tuple #[.agg cs,tmps.getD u undef]) w:=by
 have de:tmps[p]?.getD undef=.pointer (some ⟨g,0,none⟩):=by simpa using hp
 simp[results,h,de,asAddr,run_loadVar_row w g t ty cs fr d hg hu hd hi]
end
abbrev zbn (d:List UInt8) (p:Nat):Array Value:= #[S d,.int .i64 (p:Int)]
def KeptB (g cp:Nat) (w w':World):Prop:=w.heap.size≤w'.heap.size∧∀b,b<w.heap.size→b≠g→b≠cp→w'.heap[b]? =w.heap[b]?
theorem KeptB.refl (g cp:Nat) (w:World):KeptB g cp w w:=⟨Z4 _,fun _ _ _ _=>rfl⟩
theorem KeptB.trans {g cp:Nat} {a b c:World} (h:KeptB g cp a b) (k:KeptB g cp b c):KeptB g cp a c:=⟨Z2 h.1 k.1,fun x hx h1 h2=>(k.2 x (Z1 hx h.1) h1 h2).trans (h.2 x hx h1 h2)⟩
theorem KeptB.ext {g cp:Nat} {w w':World} (h:Ext w w'):KeptB g cp w w':=⟨h.size,fun b hb _ _=>h.block b hb⟩
theorem KeptB.two {g cp:Nat} {w w':World} (h:KeptB cp cp w w'):KeptB g cp w w':=⟨h.1,fun b hb _ h2=>h.2 b hb h2 h2⟩
theorem KeptB.set {g cp:Nat} (w:World) (j:Nat) (u:Value):KeptB g cp w (w.setCell ⟨cp,j,none⟩ u):=⟨by simp,fun b _ _ h2=>Below.heap_setCell w ⟨cp,j,none⟩ u b h2⟩
theorem KeptB.setg {g cp:Nat} (w:World) (j:Nat) (u:Value):KeptB g cp w (w.setCell ⟨g,j,none⟩ u):=⟨by simp,fun b _ h1 _=>Below.heap_setCell w ⟨g,j,none⟩ u b h1⟩
theorem KeptB.row {g cp b:Nat} {w w':World} {o:Obj} (h:KeptB g cp w w') (hb:w.heap[b]? =some o) (h1:b≠g) (h2:b≠cp):w'.heap[b]? =some o:=(h.2 b (Z9 hb) h1 h2).trans hb
theorem KeptB.grown {g cp:Nat} {W w w':World} {lo n c sz:Nat} {e:TypeId} {A:Option Addr} {xs:List Value} (hk:KeptB g cp W w) (ho:Own w lo e sz A n c xs) (ak:W.heap.size≤lo) (hg:w.grownBy w' (Value.slice A n c).ownBlock):KeptB g cp W w':=by
 refine⟨Z2 hk.1 hg.size,fun b hb h1 h2=>?_⟩
 refine(hg.block b (Z1 hb hk.1) (fun e=>?_)).trans (hk.2 b hb h1 h2)
 have:=(ho.blk b e.symm).1
 omega
theorem Rd.keptB {g cp:Nat} {w w':World} {lo sz n:Nat} {A:Option Addr} {xs:List Value} (h:Rd w lo sz A n xs) (hk:KeptB g cp w w') (h1:g<lo) (h2:cp<lo):Rd w' lo sz A n xs:=
 h.keep hk.1 fun b o hb ak=>by
  have:=hk.2 b hb (by omega) (by omega)
  simp only[World.cell?,this]
theorem Own.keptB {g cp:Nat} {w w':World} {lo sz n c:Nat} {e:TypeId} {A:Option Addr} {xs:List Value} (h:Own w lo e sz A n c xs) (hk:KeptB g cp w w') (h1:g<lo) (h2:cp<lo):Own w' lo e sz A n c xs:=by
 refine⟨h.1,?_⟩;rcases h.2 with h3|⟨b,cap,cur,h3,hb,hh,h4⟩
 ·exact .inl h3
 ·exact .inr ⟨b,cap,cur,h3,hb,hk.row hh (by omega) (by omega),h4⟩
structure StX (cp:Nat) (d:List UInt8) (p:Nat) (w w':World):Prop where
 row:w'.heap[cp]? =some (.cells (zbn d p) 226)
 kept:KeptB cp cp w w'
 below:Below cp w w'
theorem zf9 {w:World} {cp p:Nat} {d:List UInt8} (h:w.heap[cp]? =some (.cells (zbn d p) 226)):w.cell? ⟨cp,0,none⟩=some (S d)∧w.cell? ⟨cp,1,none⟩=some (.int .i64 (p:Int))∧w.frozen? ⟨cp,1,none⟩=false:=by
 refine⟨?_,?_,?_⟩<;>simp[World.cell?,World.frozen?,h]
theorem StX.set {w:World} {cp p:Nat} {d:List UInt8} (h:w.heap[cp]? =some (.cells (zbn d p) 226)) (q:Nat) {m:Int} {k:Nat} (e:m=(k:Int)):StX cp d k w ((w.drewN q).setCell ⟨cp,1,none⟩ (.int .i64 m)):=by
 subst e;have h':(w.drewN q).heap[cp]? =some (.cells (zbn d p) 226):=h
 exact⟨za2 h' 1 _,KeptB.set (w.drewN q) 1 _,Below.setCell (⟨rfl,rfl,rfl,Z4 _,fun _ _=>rfl⟩:Below cp w (w.drewN q)) (Z4 _) _⟩
theorem zg8 {w:World} {cp p v p':Nat} {d:List UInt8} (h:w.heap[cp]? =some (.cells (zbn d p) 226)) (hd:d.length≤maxLen) (hn:zal 2 d p=.ok (v,p')):
 Calls Tryz.prog 129 #[.pointer (some ⟨cp,0,none⟩)] w fun e w'=>e=.returned (.tuple #[.int .u16 (v:Int),.int .i64 0])∧StX cp d p' w w':=by
 have hv:=zck hn
 obtain⟨h1,h2,h3⟩:=zc2 hn
 obtain⟨c0,c1,cf⟩:=zf9 h
 have HV:=Z7 (zll cp d p 2 w hd c0 c1 cf (by omega) h2 (by omega))
 rw[←h3]at HV;have JV:(v:Int)≤65535:=by omega
 have HS:=Z7 (fun q=>StX.set h q (m:=(p:Int)+2) (k:=p') (by omega))
 clear h hd hn hv h1 h2 h3 c0 c1 cf;go_enter Tryz.func129,Tryz.ntmps129;go_wp2_with(go_at_call 184;refine HV.out.mono ?_;rintro e w' ⟨rfl,q,rfl⟩)
 go_ret2
 exact⟨rfl,HS.out q⟩
theorem zlm {w:World} {cp p x:Nat} {d:List UInt8} (h:w.heap[cp]? =some (.cells (zbn d p) 226)) (hg:Laid w) (hd:d.length≤maxLen) (hp:p≤d.length) (hn:zal 2 d p=.error x):
 Calls Tryz.prog 129 #[.pointer (some ⟨cp,0,none⟩)] w fun e w'=>e=.returned (.tuple #[.int .u16 0,.int .i64 4])∧Ext w w':=by
 obtain⟨h1,h2⟩:=zcv hn
 obtain⟨c0,c1,cf⟩:=zf9 h
 have HV:=Z7 (zg7 cp d p 2 w hg hd c0 c1 hp h2 (by omega))
 clear h hd hn h1 h2 c0 c1 cf hp;go_enter Tryz.func129,Tryz.ntmps129;go_wp2_with(go_at_call 184;refine HV.out.mono ?_;rintro e w' ⟨rfl,hE⟩)
 go_ret2
 exact⟨rfl,hE⟩
theorem zEt {w:World} {cp p v p':Nat} {d:List UInt8} (h:w.heap[cp]? =some (.cells (zbn d p) 226)) (hd:d.length≤maxLen) (hn:zal 4 d p=.ok (v,p')):
 Calls Tryz.prog 137 #[.pointer (some ⟨cp,0,none⟩)] w fun e w'=>e=.returned (.tuple #[.int .u32 (v:Int),.int .i64 0])∧StX cp d p' w w':=by
 have hv:=zo6 hn
 obtain⟨h1,h2,h3⟩:=zc2 hn
 obtain⟨c0,c1,cf⟩:=zf9 h
 have HV:=Z7 (zll cp d p 4 w hd c0 c1 cf (by omega) h2 (by omega))
 rw[←h3]at HV;have HS:=Z7 (fun q=>StX.set h q (m:=(p:Int)+4) (k:=p') (by omega))
 clear h hd hn hv h1 h2 h3 c0 c1 cf;go_enter Tryz.func137,Tryz.ntmps137;go_wp2_with(go_at_call 184;refine HV.out.mono ?_;rintro e w' ⟨rfl,q,rfl⟩)
 go_ret2
 exact⟨rfl,HS.out q⟩
theorem zxe {w:World} {cp p x:Nat} {d:List UInt8} (h:w.heap[cp]? =some (.cells (zbn d p) 226)) (hg:Laid w) (hd:d.length≤maxLen) (hp:p≤d.length) (hn:zal 4 d p=.error x):
 Calls Tryz.prog 137 #[.pointer (some ⟨cp,0,none⟩)] w fun e w'=>e=.returned (.tuple #[.int .u32 0,.int .i64 4])∧Ext w w':=by
 obtain⟨h1,h2⟩:=zcv hn
 obtain⟨c0,c1,cf⟩:=zf9 h
 have HV:=Z7 (zg7 cp d p 4 w hg hd c0 c1 hp h2 (by omega))
 clear h hd hn h1 h2 c0 c1 cf hp;go_enter Tryz.func137,Tryz.ntmps137;go_wp2_with(go_at_call 184;refine HV.out.mono ?_;rintro e w' ⟨rfl,hE⟩)
 go_ret2
 exact⟨rfl,hE⟩
theorem zw9 {w:World} {cp p:Nat} {d:List UInt8} (h:w.heap[cp]? =some (.cells (zbn d p) 226)) (hd:d.length≤maxLen) (hp:p≤d.length):
 Calls Tryz.prog 78 #[.pointer (some ⟨cp,0,none⟩)] w fun e w'=>e=.returned (.int .i64 ((d.length - p:Nat):Int))∧Ext w w':=by
 obtain⟨c0,c1,cf⟩:=zf9 h
 unfold maxLen at hd;have hs:IntKind.i64.wrap ((d.length:Int) - p)=(d.length:Int) - p:=IntWalk.i64_in _ (by omega)
 have e1:((d.length - p:Nat):Int)=(d.length:Int) - p:=by omega
 rw[e1];clear h e1;go_enter Tryz.func78,Tryz.ntmps78
 go_wp2
 go_quiet (fail)
 go_wp2
 go_ret;exact⟨rfl,xt⟩
theorem zq2 {w:World} {cp p:Nat} {d:List UInt8} (m:Nat) (h:w.heap[cp]? =some (.cells (zbn d p) 226)) (hd:d.length≤maxLen) (hm:p+m≤d.length):
 Calls Tryz.prog 74 #[.pointer (some ⟨cp,0,none⟩),.int .i64 m] w fun e w'=>e=.returned (.tuple #[S ((d.drop p).take m),.int .i64 0])∧StX cp d (p+m) w w':=by
 obtain⟨c0,c1,cf⟩:=zf9 h
 exact(zsw cp d p m w hd c0 c1 cf (by omega) hm).mono fun _ _ ⟨he,q,hw⟩=>by
  subst hw;exact⟨he,StX.set h q (by omega)⟩
theorem zou {w:World} {cp p:Nat} {d:List UInt8} (m:Nat) (h:w.heap[cp]? =some (.cells (zbn d p) 226)) (hg:Laid w) (hd:d.length≤maxLen) (iE:m≤maxLen) (hp:p≤d.length) (hm:d.length<p+m):
 Calls Tryz.prog 74 #[.pointer (some ⟨cp,0,none⟩),.int .i64 m] w fun e w'=>e=.returned (.tuple #[S [],.int .i64 4])∧Ext w w':=by
 obtain⟨c0,c1,cf⟩:=zf9 h
 exact zjp cp d p m w hg hd iE c0 c1 hp hm
theorem zxd {w:World} {cp p:Nat} {d:List UInt8} (h:w.heap[cp]? =some (.cells (zbn d p) 226)):
 Calls Tryz.prog 135 #[.pointer (some ⟨cp,0,none⟩)] w fun e w'=>e=.returned (.int .i64 p)∧w=w':=zzu cp p w (zf9 h).2.1
theorem zEu {w:World} {cp p:Nat} {d:List UInt8} (m:Nat) (h:w.heap[cp]? =some (.cells (zbn d p) 226)) (hd:d.length≤maxLen) (hm:m≤d.length):
 Calls Tryz.prog 136 #[.pointer (some ⟨cp,0,none⟩),.int .i64 m] w fun e w'=>e=.returned (.int .i64 0)∧StX cp d m w w':=by
 obtain⟨c0,c1,cf⟩:=zf9 h
 exact(zsx cp d p m w hd c0 c1 cf (by omega) (by omega)).mono fun _ _ ⟨he,hw⟩=>by
  subst hw;exact⟨he,StX.set h 0 rfl⟩
theorem zot (d:List UInt8) (w:World):
 Calls Tryz.prog 73 #[S d] w fun e w'=>e=.returned (.pointer (some ⟨w.heap.size,0,none⟩))∧w'.heap[w.heap.size]? =some (.cells (zbn d 0) 226)∧Ext w w'∧w'.heap.size=w.heap.size+1:=
 (zw7 d w).mono fun _ _ ⟨he,hw⟩=>by
  subst hw;exact⟨he,heap_alloc_new _ _,(Z5 _).alloc _,by simp⟩
def zEi (R:List Pc×Nat) (w:World) (e:Ending) (w':World):Prop:=e=.returned (.tuple #[S (if R.2=0 then textOf R.1 else[]),.int .i64 (R.2:Nat)])∧Ext w w'
theorem zye (msg:List UInt8) (at_ n:Nat) (kind:Int) (w:World) (hg:Laid w) (hl:msg.length≤1048576) (hn:at_+n≤msg.length):
 Calls Tryz.prog 139 #[S msg,.int .i64 at_,.int .i64 n,.int .u16 kind] w (zEi (splitOf (msg.take (at_+n)) at_ kind) w):=by
 have ab:(msg.take (at_+n)).length=at_+n:=by rw[List.length_take];omega
 have Hs:=Z7 (zng (msg.take (at_+n)) at_ kind w hg (by omega) (by omega))
 have aB:=zgn (msg.take (at_+n)) at_ kind (by omega)
 generalize splitOf (msg.take (at_+n)) at_ kind=R at*;obtain⟨l,er⟩:=R
 dsimp only at*;rw[ab]at aB;have h1:(0:Int)≤(at_:Int):=by omega
 have h2:(0:Int)≤(n:Int):=by omega
 have hs:IntKind.i64.wrap ((msg.length:Int) - at_)=(msg.length:Int) - at_:=IntWalk.i64_in _ (by omega)
 have iF:IntKind.i64.wrap ((at_:Int)+n)=(at_:Int)+n:=IntWalk.i64_in _ (by omega)
 have h3:¬((msg.length:Int) - at_<n):=by omega
 have e2:((at_:Int)+n).toNat=at_+n:=by omega
 have e3:(0:Int)≤(at_:Int)+n:=by omega
 have e4:(at_:Int)+n≤msg.length:=by omega
 have Hb:=Z7 (show l.length≤3∧∀p∈l,p.text.length≤2097152 from⟨aB.1,fun p hp=>Z2 (aB.2 p hp) (by omega)⟩)
 clear aB ab hl hn;by_cases aJ:er=0
 ·subst aJ;go_enter Tryz.func139,Tryz.ntmps139;go_wp2_with fail;refine Hs.out.mono ?_;rintro e w1 ⟨v,rfl,hP,ae⟩;go_wp2_with fail;refine(zkt _ v l w1 hP Hb.out.1 Hb.out.2).mono ?_;rintro e w2 ⟨rfl,ah⟩;go_wp2_with fail
  go_ret2
  exact⟨rfl,ae.trans ah⟩
 ·have f1:((er:Int)==0)=false:=zbm aJ
  have ig:=Z7 aJ
  clear aJ;go_enter Tryz.func139,Tryz.ntmps139;go_wp2_with fail;refine Hs.out.mono ?_;rintro e w1 ⟨v,rfl,hP,ae⟩;go_wp2_with fail
  go_ret2
  exact⟨by dsimp only;rw[if_neg ig.out];rfl,ae⟩
theorem zt8:(Tryz.prog.info? 182).map (fun i=>(i.zero,i.size,i.bytes))=some (some (.agg #[.int .u16 0,.string ⟨#[]⟩]),2,24):=by kernel_rfl
theorem zAo (o:OpD):∀u∈zcw o,u.oneCell'=true:=by
 intro u hu;simp only[zcw,List.mem_cons,List.not_mem_nil,or_false]at hu;rcases hu with rfl|rfl<;>rfl
abbrev edV7 (e:EdD) (o:Value):Value:=.agg #[.int .u16 e.size,.int .u8 e.ext,.int .u8 e.ver,.int .u16 e.flags,o]
def OptsT (w:World) (lo:Nat) (v:Value) (l:List OpD):Prop:=∃A c,v=.slice A l.length c∧l.length≤c∧c≤maxLen∧Rd w lo 2 A l.length (l.flatMap zcw)∧∀k,v.ownBlock=some k→lo≤k∧∃cur m,w.heap[k]? =some (.cells cur 182 m)
theorem OptsT.nil (w:World) (lo:Nat):OptsT w lo (.slice none 0 0) []:=⟨none,0,rfl,Z4 _,Nat.zero_le _,⟨rfl,fun h=>absurd h (Nat.lt_irrefl _)⟩,fun k h=>by cases h⟩
theorem OptsT.opts {w:World} {lo:Nat} {v:Value} {l:List OpD} (h:OptsT w lo v l):Opts w lo v l:=by
 obtain⟨A,c,e,h3,h4,h5,_⟩:=h;exact⟨A,c,e,h3,h4,h5⟩
theorem OptsT.by_ {w w':World} {lo:Nat} {v:Value} {l:List OpD} (h:OptsT w lo v l) (hk:∀k,v.ownBlock=some k→w'.heap[k]? =w.heap[k]?):OptsT w' lo v l:=by
 obtain⟨A,c,rfl,h3,h4,h5,h6⟩:=h
 refine⟨A,c,rfl,h3,h4,⟨h5.1,fun hn=>?_⟩,fun k iJ=>?_⟩
 ·obtain⟨b,off,rfl,e1,e2,e3⟩:=h5.2 hn
  have h7:=hk b rfl
  obtain⟨_,cur,m,h8⟩:=h6 b rfl
  refine⟨b,off,rfl,e1,(Array.getElem?_eq_some_iff.1 (h7.trans h8)).1,fun j u hu=>?_⟩
  have:=e3 j u hu
  simp only[World.cell?,h7]at this ⊢;exact this
 ·obtain⟨h7,cur,m,h8⟩:=h6 k iJ
  exact⟨h7,cur,m,(hk k iJ).trans h8⟩
theorem OptsT.lt {w:World} {lo:Nat} {v:Value} {l:List OpD} (h:OptsT w lo v l):∀k,v.ownBlock=some k→lo≤k∧k<w.heap.size:=by
 obtain⟨A,c,rfl,h3,h4,h5,h6⟩:=h
 intro k hk;obtain⟨h7,cur,m,h8⟩:=h6 k hk
 exact⟨h7,(Z9 h8)⟩
theorem OptsT.ext {w w':World} {lo:Nat} {v:Value} {l:List OpD} (h:OptsT w lo v l) (hE:Ext w w'):OptsT w' lo v l:=h.by_ fun k hk=>hE.block k (h.lt k hk).2
theorem OptsT.keptB {g cp:Nat} {w w':World} {lo:Nat} {v:Value} {l:List OpD} (h:OptsT w lo v l) (hk:KeptB g cp w w') (h1:g<lo) (h2:cp<lo):OptsT w' lo v l:=
 h.by_ fun k iJ=>by
  have:=h.lt k iJ
  exact hk.2 k this.2 (by omega) (by omega)
theorem OptsT.lower {w:World} {lo lo':Nat} {v:Value} {l:List OpD} (h:OptsT w lo v l) (hl:lo'≤lo):OptsT w lo' v l:=by
 obtain⟨A,c,e,h3,h4,h5,h6⟩:=h
 exact⟨A,c,e,h3,h4,h5.lower hl,fun k hk=>⟨Z2 hl (h6 k hk).1,(h6 k hk).2⟩⟩
theorem OptsT.grown {w w':World} {lo lo2 n c sz:Nat} {e:TypeId} {A:Option Addr} {xs:List Value} {v:Value} {l:List OpD} (h:OptsT w lo v l) (ho:Own w lo2 e sz A n c xs) (he:e≠182) (hg:w.grownBy w' (Value.slice A n c).ownBlock):OptsT w' lo v l:=
 h.by_ fun k hk=>hg.block k (h.lt k hk).2 fun FS=>by
  obtain⟨_,_,rfl,_,_,_,h6⟩:=h
  obtain⟨_,cur,m,h8⟩:=h6 k hk
  obtain⟨cur2,h9⟩:=ho.row k FS.symm
  rw[h8]at h9;injection h9 with h9
  injection h9 with _ h9 _
  exact he h9.symm
def zvy (R:Except Nat EdD) (w:World) (e:Ending) (w':World):Prop:=
 ((∃k,R=.error k∧e=.returned (.tuple #[edV7 za8 (.slice none 0 0),.int .i64 (k:Nat)]))∨(∃x v,R=.ok x∧e=.returned (.tuple #[edV7 x v,.int .i64 0])∧OptsT w' w.heap.size v x.opts))∧Ext w w'
def zCp (cls ttl:Nat):Except Nat (List OpD)→Except Nat EdD
 | .error e=>.error e
 | .ok l=>.ok ⟨cls,(ttl/16777216:Nat),(ttl/65536%256:Nat),(ttl%65536:Nat),l⟩
theorem zwc (cls ttl:Nat) (d:List UInt8):edR cls ttl d=zCp cls ttl (zqa d):=by
 unfold edR;cases zqa d<;>rfl
structure EdInv (w:World) (cp:Nat) (d:List UInt8) (R:Except Nat (List OpD)) (p f:Nat) (l:List OpD) (A:Option Addr) (c:Nat) (wr:World):Prop where
 pd:p≤d.length
 lp:l.length≤p
 row:wr.heap[cp]? =some (.cells (zbn d p) 226)
 own:Own wr (cp+1) 182 2 A l.length c (l.flatMap zcw)
 ext:Ext w wr
 fu:(d.drop p).length<f
 eq:R=zfq l (zdm f (d.drop p))
theorem zqy (cls ttl:Nat) (d:List UInt8) (w:World) (hg:Laid w) (hd:d.length≤1048576) (hc:cls≤65535) (ht:ttl≤4294967295):
 Calls Tryz.prog 187 #[.int .u16 (cls:Int),.int .u32 (ttl:Int),S d] w (zvy (edR cls ttl d) w):=by
 have gn:d.length≤maxLen:=by unfold maxLen;omega
 obtain⟨R,hR⟩:∃R,R=zqa d:=⟨_,rfl⟩
 have kj:=Z7 (show edR cls ttl d=zCp cls ttl R by rw[hR,zwc])
 have HR:=Z7 hR
 clear hR;obtain⟨i0,aH,aF,aC,ax⟩:=info_parts zt8
 obtain⟨W,hW⟩:∃W,W=w.alloc (.cells #[.int .u16 0,.int .u8 0,.int .u8 0,.int .u16 0,.slice none 0 0] 43):=⟨_,rfl⟩
 have dC:Ext w W:=by rw[hW];exact(Z5 _).alloc _
 have r0:W.heap[w.heap.size]? =some (.cells #[.int .u16 0,.int .u8 0,.int .u8 0,.int .u16 0,.slice none 0 0] 43):=by rw[hW];exact heap_alloc_new _ _
 go_enter Tryz.func187,Tryz.ntmps187;go_upto_region 1 with fail
 rw[←hW];clear hW;go_wp2_with fail;refine(zot d W).mono ?_;rintro e w1 ⟨rfl,a5,ae,rf⟩;obtain⟨cp,fE⟩:∃cp,cp=W.heap.size:=⟨_,rfl⟩
 rw[←fE]at a5 rf ⊢;have co:Ext w w1:=dC.trans ae
 have mV:w.heap.size<cp:=by rw[fE];exact Z1 (Nat.lt_succ_self _) (by have:=(Z9 r0);omega)
 have FT:W.heap.size≤cp:=by omega
 clear fE;go_wp2_with fail
 go_loopw [9] (fun s wr=>∃(p f:Nat) (l:List OpD) (A:Option Addr) (c:Nat),s=.slice A l.length c∧EdInv W cp d R p f l A c wr) (fun s _=>d.length+1 - lenOf s)
 case atStart=>exact⟨0,d.length+1,[],none,0,rfl,⟨Nat.zero_le _,by simp,a5,Own.nil _ _ _ _,ae,by rw[List.drop_zero];omega,by rw[HR.out,zr4,List.drop_zero];rfl⟩⟩
 case round=>
  obtain⟨p,f,l,A,c,rfl,hI⟩:=hrel
  obtain⟨wo,rfl⟩:∃wo:World,wo=wr:=⟨_,rfl⟩
  have pF:=hI.lp
  have ji:=hI.pd
  have HL:=Z7 (zw9 hI.row gn ji)
  by_cases ab:p<d.length
  ·have nW:(0:Int)<((d.length - p:Nat):Int):=by omega
   have kt:=Z7 (ztm ab hI.fu)
   go_wp2_with fail;refine HL.out.mono ?_;rintro e w2 ⟨rfl,ah⟩;have eU:=(ah.block cp (Z9 hI.row)).trans hI.row
   have cO:Ext W w2:=hI.ext.trans ah
   have bI:Ext w w2:=dC.trans cO
   have jN:=hI.own.ext ah
   have R0:=Z7 (fun V (hV:Ext W V)=>Z8 hV r0)
   rcases h1:zal 2 d p with x|⟨v1,p1⟩
   ·obtain⟨rfl,cZ⟩:=zcv h1
    have HT:=Z7 (zlm eU (hg.ext bI) gn ji h1)
    have HF:=Z7 (show R=.error 4 by
     rw[hI.eq];rcases kt.out with⟨_,h⟩|⟨h,_⟩|⟨h,_⟩
     ·rw[h];rfl
     ·omega
     ·omega)
    clear h1;go_wp2_with fail;refine HT.out.mono ?_;rintro e w3 ⟨rfl,ao⟩;go_upto_region 6 with fail
    refine wp_region_lit ?_
    repeat(first
     |(refine Go.wpList_store_rowTo rfl 43 (.tmp 6) (.tmp 26) rfl rfl w.heap.size #[.int .u16 0,.int .u8 0,.int .u8 0,.int .u16 0,.slice none 0 0] rfl rfl 43 _ (R0.out _ (cO.trans ao)) (by kernel_rfl) rfl (by kernel_rfl) ?_)
     |go_step)
    (try simp only[Exit.inBlock,Exit.then])
    refine bodyPost_ret (zas rfl _ _ w.heap.size _ _ _ _ rfl (setRow_heap w3 w.heap.size _ _ _ _ (R0.out _ (cO.trans ao))) Tryz.underlying43 rfl (by kernel_rfl)) rfl ?_
    exact⟨.inl ⟨4,by rw[kj.out,HF.out];rfl,rfl⟩,Below.grown (bI.trans ao) (zak w3 _ _) (bI.trans ao).size (fun k hk=>by injection hk with hk;omega)⟩
   ·obtain⟨e1,rg,ku⟩:=zc2 h1
    have cQ:=zck h1
    have HT:=Z7 (zg8 eU gn h1)
    have AA:=Z7 (show v1=n16 d p from ku)
    subst e1;clear h1 ku;go_wp2_with fail;refine HT.out.mono ?_;rintro e w3 ⟨rfl,dI⟩;have dJ:=dI.row
    have bK:Ext W w3:=cO.then dI.below (by omega)
    have kN:Ext w w3:=dC.trans bK
    have eN:=jN.keptB dI.kept (by omega) (by omega)
    clear dI;rcases h2:zal 2 d (p+2)with x|⟨v2,p2⟩
    ·obtain⟨rfl,cZ⟩:=zcv h2
     have lQ:=Z7 (zlm dJ (hg.ext kN) gn rg h2)
     have HF:=Z7 (show R=.error 4 by
      rw[hI.eq];rcases kt.out with⟨_,h⟩|⟨h,_⟩|⟨h,_⟩
      ·rw[h];rfl
      ·omega
      ·omega)
     clear h2;go_wp2_with fail;refine lQ.out.mono ?_;rintro e w4 ⟨rfl,aL⟩;go_upto_region 9 with fail
     refine wp_region_lit ?_
     repeat(first
      |(refine Go.wpList_store_rowTo rfl 43 (.tmp 6) (.tmp 35) rfl rfl w.heap.size #[.int .u16 0,.int .u8 0,.int .u8 0,.int .u16 0,.slice none 0 0] rfl rfl 43 _ (R0.out _ (bK.trans aL)) (by kernel_rfl) rfl (by kernel_rfl) ?_)
      |go_step)
     (try simp only[Exit.inBlock,Exit.then])
     refine bodyPost_ret (zas rfl _ _ w.heap.size _ _ _ _ rfl (setRow_heap w4 w.heap.size _ _ _ _ (R0.out _ (bK.trans aL))) Tryz.underlying43 rfl (by kernel_rfl)) rfl ?_
     exact⟨.inl ⟨4,by rw[kj.out,HF.out];rfl,rfl⟩,Below.grown (kN.trans aL) (zak w4 _ _) (kN.trans aL).size (fun k hk=>by injection hk with hk;omega)⟩
    ·obtain⟨e2,ri,k8⟩:=zc2 h2
     have cj:=zck h2
     have lQ:=Z7 (zg8 dJ gn h2)
     have AB:=Z7 (show v2=n16 d (p+2)from k8)
     subst e2;clear h2 k8;rw[←AB.out]at kt;go_wp2_with fail;refine lQ.out.mono ?_;rintro e w4 ⟨rfl,fF⟩;have bv:=fF.row
     have bE:Ext W w4:=bK.then fF.below (by omega)
     have pG:Ext w w4:=dC.trans bE
     have cL:=eN.keptB fF.kept (by omega) (by omega)
     clear fF;by_cases h3:d.length<p+2+2+v2
     ·have oi:=Z7 (zou v2 bv (hg.ext pG) gn (by unfold maxLen;omega) ri h3)
      have HF:=Z7 (show R=.error 4 by
       rw[hI.eq];rcases kt.out with⟨h,_⟩|⟨_,_,h⟩|⟨h,_⟩
       ·omega
       ·rw[h];rfl
       ·omega)
      clear h3;go_wp2_with fail;refine oi.out.mono ?_;rintro e w5 ⟨rfl,am⟩;go_upto_region 12 with fail
      refine wp_region_lit ?_
      repeat(first
       |(refine Go.wpList_store_rowTo rfl 43 (.tmp 6) (.tmp 46) rfl rfl w.heap.size #[.int .u16 0,.int .u8 0,.int .u8 0,.int .u16 0,.slice none 0 0] rfl rfl 43 _ (R0.out _ (bE.trans am)) (by kernel_rfl) rfl (by kernel_rfl) ?_)
       |go_step)
      (try simp only[Exit.inBlock,Exit.then])
      refine bodyPost_ret (zas rfl _ _ w.heap.size _ _ _ _ rfl (setRow_heap w5 w.heap.size _ _ _ _ (R0.out _ (bE.trans am))) Tryz.underlying43 rfl (by kernel_rfl)) rfl ?_
      exact⟨.inl ⟨4,by rw[kj.out,HF.out];rfl,rfl⟩,Below.grown (pG.trans am) (zak w5 _ _) (pG.trans am).size (fun k hk=>by injection hk with hk;omega)⟩
     ·have oi:=Z7 (zq2 v2 bv gn (by omega))
      obtain⟨f',AC,ii⟩:∃f',(d.drop (p+4+v2)).length<f'∧∀l,zfq l (zdm f (d.drop p))=zfq (l++[⟨n16 d p,(d.drop (p+4)).take v2⟩]) (zdm f' (d.drop (p+4+v2))):=by
       rcases kt.out with⟨h,_⟩|⟨_,h,_⟩|⟨_,h⟩
       ·omega
       ·omega
       ·exact h
      have HF:=Z7 (hI.eq.trans (ii l))
      rw[←AA.out]at HF;have rj:p+2+2=p+4:=by omega
      rw[rj]at oi;clear rj ii kt;go_wp2_with fail;refine oi.out.mono ?_;rintro e w5 ⟨rfl,fG⟩;have dK:=fG.row
      have gJ:Ext W w5:=bE.then fG.below (by omega)
      have ai:=cL.keptB fG.kept (by omega) (by omega)
      have rk:=(Z9 dK)
      clear fG;generalize (d.drop (p+4)).take v2=od at*;go_wp2_with(first
       |(at_builtin
         refine zad _ rfl (.tmp 48) (.tmp 52) _ rfl (cp+1) 182 i0 _ 2 24 Tryz.underlying41 aH aF aC ax rfl (by omega) A l.length c (l.flatMap zcw) rfl (ai.ext ((Z5 _).alloc _)) 0 _ 1 1 (zcw ⟨v1,od⟩) rfl (zaw _ _ (by simp) _ _ 1 2 rfl) (zAo _) (by omega) (by omega) (by simp;omega) ?_
         intro A6 c6 w6 aQ dG dT dH)
       |fail)
      have jO:w6.heap[cp]? =some (.cells (zbn d (p+4+v2)) 226):=(dT.block cp (by omega)).trans ((heap_alloc_old _ _ rk).trans dK)
      have gf:Ext W w6:=(gJ.alloc _).then dT (by omega)
      go_roundw
      case rel=>
       refine⟨p+4+v2,f',l++[⟨v1,od⟩],A6,c6,by simp,⟨by omega,by simp;omega,jO,?_,gf,AC,HF.out⟩⟩
       simpa using aQ
      case measure=>simp[lenOf];omega
  ·have hz:((d.length - p:Nat):Int)=0:=by omega
   rw[hz]at HL;have HF:=Z7 (show R=.ok l by
    have eV:d.drop p=[]:=List.drop_of_length_le (by omega)
    have FU:=hI.fu
    rw[hI.eq,eV,zwm f (by omega)]
    simp[zfq])
   have R0:=Z7 (fun V (hV:Ext W V)=>Z8 hV r0)
   have bo:=hI.own.cap
   go_wp2_with fail;refine HL.out.mono ?_;rintro e w2 ⟨rfl,ah⟩;have eF:Ext W w2:=hI.ext.trans ah
   have jN:=hI.own.ext ah
   have dz:(l.length:Int)≤(c:Int):=by omega
   go_upto_region 14 with fail
   refine wp_region_lit ?_
   repeat(first
    |(refine Go.wpList_store_rowTo rfl 43 (.tmp 6) (.tmp 69) rfl rfl w.heap.size _ rfl rfl 43 _ (R0.out _ eF) (by kernel_rfl) rfl (by kernel_rfl) ?_)
    |go_step)
   (try simp only[Exit.inBlock,Exit.then])
   refine bodyPost_ret (zas rfl _ _ w.heap.size _ _ _ _ rfl (setRow_heap w2 w.heap.size _ _ _ _ (R0.out _ eF)) Tryz.underlying43 rfl (by kernel_rfl)) rfl ?_
   have bI:=dC.trans eF
   have hk:Own (w2.setRow w.heap.size #[.int .u16 (cls:Int),.int .u8 ((ttl:Int)/16777216),.int .u8 ((ttl:Int)/65536%256),.int .u16 (IntKind.u16.wrap (ttl:Int)),.slice A l.length l.length]) (cp+1) 182 2 A l.length c (l.flatMap zcw):=
    jN.kept (zak w2 _ _) (.inr fun he=>by have:=(jN.blk _ he).1;omega)
   refine⟨.inr ⟨⟨cls,(ttl/16777216:Nat),(ttl/65536%256:Nat),(ttl%65536:Nat),l⟩,.slice A l.length l.length,by rw[kj.out,HF.out];rfl,?_,⟨A,l.length,rfl,Z4 _,Z2 bo.1 bo.2,hk.rd.lower (by omega),fun k iJ=>?_⟩⟩,Below.grown bI (zak w2 _ _) bI.size (fun k hk=>by injection hk with hk;omega)⟩
   have e1:(ttl:Int)/16777216=((ttl/16777216:Nat):Int):=by omega
   have e2:(ttl:Int)/65536%256=((ttl/65536%256:Nat):Int):=by omega
   have e3:IntKind.u16.wrap (ttl:Int)=((ttl%65536:Nat):Int):=by show(ttl:Int)%65536=_;omega
   ·rw[e1,e2,e3];rfl
   ·have vz:(Value.slice A l.length c).ownBlock=some k:=by rw[←iJ];cases A<;>rfl
    obtain⟨cur,hc⟩:=hk.row k vz
    exact⟨by have:=(hk.blk k vz).1;omega,cur,_,hc⟩
theorem zg2 (n k:Nat):(n&&& 2^k=0)↔¬n/2^k%2=1:=by
 have h1:n.testBit k=decide (n/2^k%2=1):=Nat.testBit_eq_decide_div_mod_eq
 constructor
 ·intro h hb;have h2:(n&&& 2^k).testBit k=true:=by
   rw[Nat.testBit_and,h1,decide_eq_true hb,Nat.testBit_two_pow_self];rfl
  rw[h]at h2;simp at h2
 ·intro hb;apply Nat.eq_of_testBit_eq;intro i;rw[Nat.testBit_and,Nat.zero_testBit,Nat.testBit_two_pow];by_cases hk:k=i
  ·subst hk;rw[h1,decide_eq_false hb];rfl
  ·simp[hk]
theorem zw0 (n:Nat):n&&& 15=n%16:=by
 have:=Nat.and_two_pow_sub_one_eq_mod n 4
 simpa using this
def bRow (n:Nat):Nat→Array Value
 |0=> #[.bool false,.bool false,.bool false,.bool false,.bool false,.bool false,.bool false,.bool false]
 |1=> #[.bool (decide (n/32768%2=1)),.bool false,.bool false,.bool false,.bool false,.bool false,.bool false,.bool false]
 |2=> #[.bool (decide (n/32768%2=1)),.bool (decide (n/1024%2=1)),.bool false,.bool false,.bool false,.bool false,.bool false,.bool false]
 |3=> #[.bool (decide (n/32768%2=1)),.bool (decide (n/1024%2=1)),.bool (decide (n/512%2=1)),.bool false,.bool false,.bool false,.bool false,.bool false]
 |4=> #[.bool (decide (n/32768%2=1)),.bool (decide (n/1024%2=1)),.bool (decide (n/512%2=1)),.bool (decide (n/256%2=1)),.bool false,.bool false,.bool false,.bool false]
 |5=> #[.bool (decide (n/32768%2=1)),.bool (decide (n/1024%2=1)),.bool (decide (n/512%2=1)),.bool (decide (n/256%2=1)),.bool (decide (n/128%2=1)),.bool false,.bool false,.bool false]
 |6=> #[.bool (decide (n/32768%2=1)),.bool (decide (n/1024%2=1)),.bool (decide (n/512%2=1)),.bool (decide (n/256%2=1)),.bool (decide (n/128%2=1)),.bool (decide (n/64%2=1)),.bool false,.bool false]
 |7=> #[.bool (decide (n/32768%2=1)),.bool (decide (n/1024%2=1)),.bool (decide (n/512%2=1)),.bool (decide (n/256%2=1)),.bool (decide (n/128%2=1)),.bool (decide (n/64%2=1)),.bool (decide (n/32%2=1)),.bool false]
 |_=> #[.bool (decide (n/32768%2=1)),.bool (decide (n/1024%2=1)),.bool (decide (n/512%2=1)),.bool (decide (n/256%2=1)),.bool (decide (n/128%2=1)),.bool (decide (n/64%2=1)),.bool (decide (n/32%2=1)),.bool (decide (n/16%2=1))]
theorem zA4 (n:Nat) (w:World) (hb:BitsAt w) (hn:n≤65535):
 Calls Tryz.prog 130 #[.int .u16 (n:Int)] w fun e w'=>e=.returned (hdV (za1 0 n))∧Ext w w':=by
 go_enter Tryz.func130,Tryz.ntmps130;go_upto_region 2 with fail
 obtain⟨W,hW⟩:∃W,W=(w.alloc (.cells #[.int .u16 0,.bool false,.int .u8 0,.bool false,.bool false,.bool false,.bool false,.bool false,.bool false,.bool false,.int .u8 0] 30)).alloc (.cells #[.bool false,.bool false,.bool false,.bool false,.bool false,.bool false,.bool false,.bool false] 222):=⟨_,rfl⟩
 have dC:Ext w W:=by rw[hW];exact((Z5 _).alloc _).alloc _
 have a5:W.heap[w.heap.size+1]? =some (.cells (bRow n 0) 222):=by rw[hW];exact heap_alloc2_new w _ _
 have pH:W.heap[w.heap.size]? =some (.cells #[.int .u16 0,.bool false,.int .u8 0,.bool false,.bool false,.bool false,.bool false,.bool false,.bool false,.bool false,.int .u8 0] 30):=by
  rw[hW];have h1:=heap_alloc_new w (.cells #[.int .u16 0,.bool false,.int .u8 0,.bool false,.bool false,.bool false,.bool false,.bool false,.bool false,.bool false,.int .u8 0] 30)
  rw[heap_alloc_old _ _ (Z9 h1)];exact h1
 rw[←hW];clear hW;obtain⟨b0,b1,b2,b3,b4,b5,b6,b7⟩:=hb.ext dC
 go_wp2_with fail;clear b0 b1 b2 b3 b4 b5 b6 b7
 go_loopw [4,5,7] (fun _ _ s7 wr=>∃k:Nat,k≤8∧s7=.int .i64 k∧wr.heap[w.heap.size+1]? =some (.cells (bRow n k) 222)∧wr.heap[w.heap.size]? =some (.cells #[.int .u16 0,.bool false,.int .u8 0,.bool false,.bool false,.bool false,.bool false,.bool false,.bool false,.bool false,.int .u8 0] 30)∧Ext w wr) (fun _ _ s7 _=>8 - (intOf s7).toNat)
 case atStart=>exact⟨0,by omega,rfl,a5,pH,dC⟩
 case round=>
  obtain⟨k,hk,rfl,h1,h0,hE⟩:=hrel
  obtain⟨wo,rfl⟩:∃wo:World,wo=wr:=⟨_,rfl⟩
  clear a5 pH;rcases Nat.lt_or_ge k 8 with hk8|hk8
  ·rcases(by omega:k=0∨k=1∨k=2∨k=3∨k=4∨k=5∨k=6∨k=7)with rfl|rfl|rfl|rfl|rfl|rfl|rfl|rfl
   ·have hc:((0:Nat):Int)=0:=rfl
    have dY:∀V:World,(Instr.index 223 (.agg #[.int .u16 32768,.int .u16 1024,.int .u16 512,.int .u16 256,.int .u16 128,.int .u16 64,.int .u16 32,.int .u16 16]) (.int .i64 0)).run Tryz.prog V=.ok (.int .u16 32768) V:=fun _=>by kernel_rfl
    have ha:(bits .and .u16 (n:Int) 32768==0)= !decide (n/32768%2=1):=by
     rw[show(32768:Int)=((32768:Nat):Int)from rfl,u16_and_nat n 32768 (by omega) (by omega)]
     have:=zg2 n 15
     rw[show 2^15=32768 from rfl]at this
     by_cases aM:n/32768%2=1
     ·have h3:n&&& 32768≠0:=fun h=>(this.1 h) aM
      rw[decide_eq_true aM];simpa using h3
     ·rw[decide_eq_false aM,this.2 aM];rfl
    have c1:wo.cell? ⟨w.heap.size+1,0,none⟩=some (.bool false):=cell_of_row wo _ 0 _ _ _ h1
    have f1:wo.frozen? ⟨w.heap.size+1,0,none⟩=false:=by simp[World.frozen?,h1]
    have hv:(bits .and .u16 (n:Int) 32768!=0)=decide (n/32768%2=1):=by
     show(!(bits .and .u16 (n:Int) 32768==0))=_
     rw[ha,Bool.not_not]
    have Hv:=Z7 hv
    clear ha hv;clear hc;go_wp2_with fail;rw[Hv.out];refine⟨⟨1,by omega,rfl,(za2 h1 0 _).trans rfl,(Below.heap_setCell _ _ _ _ (by dsimp only;omega)).trans h0,Ext.setCell hE (by dsimp only;omega) _⟩,by simp[intOf]⟩
   ·have hc:((1:Nat):Int)=1:=rfl
    have dY:∀V:World,(Instr.index 223 (.agg #[.int .u16 32768,.int .u16 1024,.int .u16 512,.int .u16 256,.int .u16 128,.int .u16 64,.int .u16 32,.int .u16 16]) (.int .i64 1)).run Tryz.prog V=.ok (.int .u16 1024) V:=fun _=>by kernel_rfl
    have ha:(bits .and .u16 (n:Int) 1024==0)= !decide (n/1024%2=1):=by
     rw[show(1024:Int)=((1024:Nat):Int)from rfl,u16_and_nat n 1024 (by omega) (by omega)]
     have:=zg2 n 10
     rw[show 2^10=1024 from rfl]at this
     by_cases aM:n/1024%2=1
     ·have h3:n&&& 1024≠0:=fun h=>(this.1 h) aM
      rw[decide_eq_true aM];simpa using h3
     ·rw[decide_eq_false aM,this.2 aM];rfl
    have c1:wo.cell? ⟨w.heap.size+1,1,none⟩=some (.bool false):=cell_of_row wo _ 1 _ _ _ h1
    have f1:wo.frozen? ⟨w.heap.size+1,1,none⟩=false:=by simp[World.frozen?,h1]
    have hv:(bits .and .u16 (n:Int) 1024!=0)=decide (n/1024%2=1):=by
     show(!(bits .and .u16 (n:Int) 1024==0))=_
     rw[ha,Bool.not_not]
    have Hv:=Z7 hv
    clear ha hv;clear hc;go_wp2_with fail;rw[Hv.out];refine⟨⟨2,by omega,rfl,(za2 h1 1 _).trans rfl,(Below.heap_setCell _ _ _ _ (by dsimp only;omega)).trans h0,Ext.setCell hE (by dsimp only;omega) _⟩,by simp[intOf]⟩
   ·have hc:((2:Nat):Int)=2:=rfl
    have dY:∀V:World,(Instr.index 223 (.agg #[.int .u16 32768,.int .u16 1024,.int .u16 512,.int .u16 256,.int .u16 128,.int .u16 64,.int .u16 32,.int .u16 16]) (.int .i64 2)).run Tryz.prog V=.ok (.int .u16 512) V:=fun _=>by kernel_rfl
    have ha:(bits .and .u16 (n:Int) 512==0)= !decide (n/512%2=1):=by
     rw[show(512:Int)=((512:Nat):Int)from rfl,u16_and_nat n 512 (by omega) (by omega)]
     have:=zg2 n 9
     rw[show 2^9=512 from rfl]at this
     by_cases aM:n/512%2=1
     ·have h3:n&&& 512≠0:=fun h=>(this.1 h) aM
      rw[decide_eq_true aM];simpa using h3
     ·rw[decide_eq_false aM,this.2 aM];rfl
    have c1:wo.cell? ⟨w.heap.size+1,2,none⟩=some (.bool false):=cell_of_row wo _ 2 _ _ _ h1
    have f1:wo.frozen? ⟨w.heap.size+1,2,none⟩=false:=by simp[World.frozen?,h1]
    have hv:(bits .and .u16 (n:Int) 512!=0)=decide (n/512%2=1):=by
     show(!(bits .and .u16 (n:Int) 512==0))=_
     rw[ha,Bool.not_not]
    have Hv:=Z7 hv
    clear ha hv;clear hc;go_wp2_with fail;rw[Hv.out];refine⟨⟨3,by omega,rfl,(za2 h1 2 _).trans rfl,(Below.heap_setCell _ _ _ _ (by dsimp only;omega)).trans h0,Ext.setCell hE (by dsimp only;omega) _⟩,by simp[intOf]⟩
   ·have hc:((3:Nat):Int)=3:=rfl
    have dY:∀V:World,(Instr.index 223 (.agg #[.int .u16 32768,.int .u16 1024,.int .u16 512,.int .u16 256,.int .u16 128,.int .u16 64,.int .u16 32,.int .u16 16]) (.int .i64 3)).run Tryz.prog V=.ok (.int .u16 256) V:=fun _=>by kernel_rfl
    have ha:(bits .and .u16 (n:Int) 256==0)= !decide (n/256%2=1):=by
     rw[show(256:Int)=((256:Nat):Int)from rfl,u16_and_nat n 256 (by omega) (by omega)]
     have:=zg2 n 8
     rw[show 2^8=256 from rfl]at this
     by_cases aM:n/256%2=1
     ·have h3:n&&& 256≠0:=fun h=>(this.1 h) aM
      rw[decide_eq_true aM];simpa using h3
     ·rw[decide_eq_false aM,this.2 aM];rfl
    have c1:wo.cell? ⟨w.heap.size+1,3,none⟩=some (.bool false):=cell_of_row wo _ 3 _ _ _ h1
    have f1:wo.frozen? ⟨w.heap.size+1,3,none⟩=false:=by simp[World.frozen?,h1]
    have hv:(bits .and .u16 (n:Int) 256!=0)=decide (n/256%2=1):=by
     show(!(bits .and .u16 (n:Int) 256==0))=_
     rw[ha,Bool.not_not]
    have Hv:=Z7 hv
    clear ha hv;clear hc;go_wp2_with fail;rw[Hv.out];refine⟨⟨4,by omega,rfl,(za2 h1 3 _).trans rfl,(Below.heap_setCell _ _ _ _ (by dsimp only;omega)).trans h0,Ext.setCell hE (by dsimp only;omega) _⟩,by simp[intOf]⟩
   ·have hc:((4:Nat):Int)=4:=rfl
    have dY:∀V:World,(Instr.index 223 (.agg #[.int .u16 32768,.int .u16 1024,.int .u16 512,.int .u16 256,.int .u16 128,.int .u16 64,.int .u16 32,.int .u16 16]) (.int .i64 4)).run Tryz.prog V=.ok (.int .u16 128) V:=fun _=>by kernel_rfl
    have ha:(bits .and .u16 (n:Int) 128==0)= !decide (n/128%2=1):=by
     rw[show(128:Int)=((128:Nat):Int)from rfl,u16_and_nat n 128 (by omega) (by omega)]
     have:=zg2 n 7
     rw[show 2^7=128 from rfl]at this
     by_cases aM:n/128%2=1
     ·have h3:n&&& 128≠0:=fun h=>(this.1 h) aM
      rw[decide_eq_true aM];simpa using h3
     ·rw[decide_eq_false aM,this.2 aM];rfl
    have c1:wo.cell? ⟨w.heap.size+1,4,none⟩=some (.bool false):=cell_of_row wo _ 4 _ _ _ h1
    have f1:wo.frozen? ⟨w.heap.size+1,4,none⟩=false:=by simp[World.frozen?,h1]
    have hv:(bits .and .u16 (n:Int) 128!=0)=decide (n/128%2=1):=by
     show(!(bits .and .u16 (n:Int) 128==0))=_
     rw[ha,Bool.not_not]
    have Hv:=Z7 hv
    clear ha hv;clear hc;go_wp2_with fail;rw[Hv.out];refine⟨⟨5,by omega,rfl,(za2 h1 4 _).trans rfl,(Below.heap_setCell _ _ _ _ (by dsimp only;omega)).trans h0,Ext.setCell hE (by dsimp only;omega) _⟩,by simp[intOf]⟩
   ·have hc:((5:Nat):Int)=5:=rfl
    have dY:∀V:World,(Instr.index 223 (.agg #[.int .u16 32768,.int .u16 1024,.int .u16 512,.int .u16 256,.int .u16 128,.int .u16 64,.int .u16 32,.int .u16 16]) (.int .i64 5)).run Tryz.prog V=.ok (.int .u16 64) V:=fun _=>by kernel_rfl
    have ha:(bits .and .u16 (n:Int) 64==0)= !decide (n/64%2=1):=by
     rw[show(64:Int)=((64:Nat):Int)from rfl,u16_and_nat n 64 (by omega) (by omega)]
     have:=zg2 n 6
     rw[show 2^6=64 from rfl]at this
     by_cases aM:n/64%2=1
     ·have h3:n&&& 64≠0:=fun h=>(this.1 h) aM
      rw[decide_eq_true aM];simpa using h3
     ·rw[decide_eq_false aM,this.2 aM];rfl
    have c1:wo.cell? ⟨w.heap.size+1,5,none⟩=some (.bool false):=cell_of_row wo _ 5 _ _ _ h1
    have f1:wo.frozen? ⟨w.heap.size+1,5,none⟩=false:=by simp[World.frozen?,h1]
    have hv:(bits .and .u16 (n:Int) 64!=0)=decide (n/64%2=1):=by
     show(!(bits .and .u16 (n:Int) 64==0))=_
     rw[ha,Bool.not_not]
    have Hv:=Z7 hv
    clear ha hv;clear hc;go_wp2_with fail;rw[Hv.out];refine⟨⟨6,by omega,rfl,(za2 h1 5 _).trans rfl,(Below.heap_setCell _ _ _ _ (by dsimp only;omega)).trans h0,Ext.setCell hE (by dsimp only;omega) _⟩,by simp[intOf]⟩
   ·have hc:((6:Nat):Int)=6:=rfl
    have dY:∀V:World,(Instr.index 223 (.agg #[.int .u16 32768,.int .u16 1024,.int .u16 512,.int .u16 256,.int .u16 128,.int .u16 64,.int .u16 32,.int .u16 16]) (.int .i64 6)).run Tryz.prog V=.ok (.int .u16 32) V:=fun _=>by kernel_rfl
    have ha:(bits .and .u16 (n:Int) 32==0)= !decide (n/32%2=1):=by
     rw[show(32:Int)=((32:Nat):Int)from rfl,u16_and_nat n 32 (by omega) (by omega)]
     have:=zg2 n 5
     rw[show 2^5=32 from rfl]at this
     by_cases aM:n/32%2=1
     ·have h3:n&&& 32≠0:=fun h=>(this.1 h) aM
      rw[decide_eq_true aM];simpa using h3
     ·rw[decide_eq_false aM,this.2 aM];rfl
    have c1:wo.cell? ⟨w.heap.size+1,6,none⟩=some (.bool false):=cell_of_row wo _ 6 _ _ _ h1
    have f1:wo.frozen? ⟨w.heap.size+1,6,none⟩=false:=by simp[World.frozen?,h1]
    have hv:(bits .and .u16 (n:Int) 32!=0)=decide (n/32%2=1):=by
     show(!(bits .and .u16 (n:Int) 32==0))=_
     rw[ha,Bool.not_not]
    have Hv:=Z7 hv
    clear ha hv;clear hc;go_wp2_with fail;rw[Hv.out];refine⟨⟨7,by omega,rfl,(za2 h1 6 _).trans rfl,(Below.heap_setCell _ _ _ _ (by dsimp only;omega)).trans h0,Ext.setCell hE (by dsimp only;omega) _⟩,by simp[intOf]⟩
   ·have hc:((7:Nat):Int)=7:=rfl
    have dY:∀V:World,(Instr.index 223 (.agg #[.int .u16 32768,.int .u16 1024,.int .u16 512,.int .u16 256,.int .u16 128,.int .u16 64,.int .u16 32,.int .u16 16]) (.int .i64 7)).run Tryz.prog V=.ok (.int .u16 16) V:=fun _=>by kernel_rfl
    have ha:(bits .and .u16 (n:Int) 16==0)= !decide (n/16%2=1):=by
     rw[show(16:Int)=((16:Nat):Int)from rfl,u16_and_nat n 16 (by omega) (by omega)]
     have:=zg2 n 4
     rw[show 2^4=16 from rfl]at this
     by_cases aM:n/16%2=1
     ·have h3:n&&& 16≠0:=fun h=>(this.1 h) aM
      rw[decide_eq_true aM];simpa using h3
     ·rw[decide_eq_false aM,this.2 aM];rfl
    have c1:wo.cell? ⟨w.heap.size+1,7,none⟩=some (.bool false):=cell_of_row wo _ 7 _ _ _ h1
    have f1:wo.frozen? ⟨w.heap.size+1,7,none⟩=false:=by simp[World.frozen?,h1]
    have hv:(bits .and .u16 (n:Int) 16!=0)=decide (n/16%2=1):=by
     show(!(bits .and .u16 (n:Int) 16==0))=_
     rw[ha,Bool.not_not]
    have Hv:=Z7 hv
    clear ha hv;clear hc;go_wp2_with fail;rw[Hv.out];refine⟨⟨8,by omega,rfl,(za2 h1 7 _).trans rfl,(Below.heap_setCell _ _ _ _ (by dsimp only;omega)).trans h0,Ext.setCell hE (by dsimp only;omega) _⟩,by simp[intOf]⟩
  ·obtain rfl:k=8:=by omega
   have hc:((8:Nat):Int)=8:=rfl
   have p0:wo.cell? ⟨w.heap.size+1,0,none⟩=some (.bool (decide (n/32768%2=1))):=cell_of_row wo _ 0 _ _ _ h1
   have p1:wo.cell? ⟨w.heap.size+1,1,none⟩=some (.bool (decide (n/1024%2=1))):=cell_of_row wo _ 1 _ _ _ h1
   have p2:wo.cell? ⟨w.heap.size+1,2,none⟩=some (.bool (decide (n/512%2=1))):=cell_of_row wo _ 2 _ _ _ h1
   have p3:wo.cell? ⟨w.heap.size+1,3,none⟩=some (.bool (decide (n/256%2=1))):=cell_of_row wo _ 3 _ _ _ h1
   have p4:wo.cell? ⟨w.heap.size+1,4,none⟩=some (.bool (decide (n/128%2=1))):=cell_of_row wo _ 4 _ _ _ h1
   have p5:wo.cell? ⟨w.heap.size+1,5,none⟩=some (.bool (decide (n/64%2=1))):=cell_of_row wo _ 5 _ _ _ h1
   have p6:wo.cell? ⟨w.heap.size+1,6,none⟩=some (.bool (decide (n/32%2=1))):=cell_of_row wo _ 6 _ _ _ h1
   have p7:wo.cell? ⟨w.heap.size+1,7,none⟩=some (.bool (decide (n/16%2=1))):=cell_of_row wo _ 7 _ _ _ h1
   have bm:bits .and .u16 ((n:Int)/2048) 15%256=((n/2048%16:Nat):Int):=by
    rw[show((n:Int)/2048)=((n/2048:Nat):Int)by omega,show(15:Int)=((15:Nat):Int)from rfl,u16_and_nat _ _ (by omega) (by omega),zw0];omega
   have aI:bits .and .u16 (n:Int) 15%256=((n%16:Nat):Int):=by
    rw[show(15:Int)=((15:Nat):Int)from rfl,u16_and_nat _ _ (by omega) (by omega),zw0];omega
   have H1:=Z7 bm
   have H2:=Z7 aI
   clear bm aI;go_upto_region 7 with fail
   refine wp_region_lit ?_
   repeat(first
    |(refine Go.wpList_store_rowTo rfl 30 (.tmp 2) (.tmp 41) rfl rfl w.heap.size #[.int .u16 0,.bool (decide (n/32768%2=1)),.int .u8 (bits .and .u16 ((n:Int)/2048) 15%256),.bool (decide (n/1024%2=1)),.bool (decide (n/512%2=1)),.bool (decide (n/256%2=1)),.bool (decide (n/128%2=1)),.bool (decide (n/64%2=1)),.bool (decide (n/32%2=1)),.bool (decide (n/16%2=1)),.int .u8 (bits .and .u16 (n:Int) 15%256)] rfl rfl 30 _ h0 (by kernel_rfl) rfl (by kernel_rfl) ?_)
    |go_step)
   have h9:=setRow_heap wo w.heap.size _ #[.int .u16 0,.bool (decide (n/32768%2=1)),.int .u8 (bits .and .u16 ((n:Int)/2048) 15%256),.bool (decide (n/1024%2=1)),.bool (decide (n/512%2=1)),.bool (decide (n/256%2=1)),.bool (decide (n/128%2=1)),.bool (decide (n/64%2=1)),.bool (decide (n/32%2=1)),.bool (decide (n/16%2=1)),.int .u8 (bits .and .u16 (n:Int) 15%256)] _ _ h0
   (try simp only[Exit.inBlock,Exit.then])
   refine bodyPost_ret (results_cell_row rfl _ _ w.heap.size _ _ _ _ rfl h9 Tryz.underlying30 rfl (by kernel_rfl)) rfl ?_
   refine⟨?_,Below.grown hE (zak wo _ _) hE.size (fun k hk=>by injection hk with hk;omega)⟩
   rw[H1.out,H2.out];have hq:decide (n/32768%2=1)=decide (n/32768=1):=by rw[Nat.mod_eq_of_lt (by omega)]
   rw[hq];rfl
def hdZ:HdD:=⟨0,false,0,false,false,false,false,false,false,false,0⟩
abbrev cnV (a b c d:Nat):Value:=.agg #[.int .i64 (a:Int),.int .i64 (b:Int),.int .i64 (c:Int),.int .i64 (d:Int)]
theorem zt5 (s:List UInt8) (w:World) (hs:s.length<12):
 Calls Tryz.prog 66 #[S s] w fun e w'=>e=.returned (.tuple #[hdV hdZ,cnV 0 0 0 0,.int .i64 4])∧Ext w w':=by
 obtain⟨W,hW⟩:∃W,W=(w.alloc (.cells #[.int .u16 0,.bool false,.int .u8 0,.bool false,.bool false,.bool false,.bool false,.bool false,.bool false,.bool false,.int .u8 0] 30)).alloc (.cells #[.int .i64 0,.int .i64 0,.int .i64 0,.int .i64 0] 130):=⟨_,rfl⟩
 have dC:Ext w W:=by rw[hW];exact((Z5 _).alloc _).alloc _
 have r1:W.heap[w.heap.size+1]? =some (.cells #[.int .i64 0,.int .i64 0,.int .i64 0,.int .i64 0] 130):=by rw[hW];exact heap_alloc2_new w _ _
 have r0:W.heap[w.heap.size]? =some (.cells #[.int .u16 0,.bool false,.int .u8 0,.bool false,.bool false,.bool false,.bool false,.bool false,.bool false,.bool false,.int .u8 0] 30):=by
  rw[hW];have h1:=heap_alloc_new w (.cells #[.int .u16 0,.bool false,.int .u8 0,.bool false,.bool false,.bool false,.bool false,.bool false,.bool false,.bool false,.int .u8 0] 30)
  rw[heap_alloc_old _ _ (Z9 h1)];exact h1
 have ab:(s.length:Int)<12:=by omega
 go_enter Tryz.func66,Tryz.ntmps66;go_upto_region 1 with fail
 rw[←hW];clear hW;have r1':(W.setRow w.heap.size #[.int .u16 0,.bool false,.int .u8 0,.bool false,.bool false,.bool false,.bool false,.bool false,.bool false,.bool false,.int .u8 0]).heap[w.heap.size+1]? =some (.cells #[.int .i64 0,.int .i64 0,.int .i64 0,.int .i64 0] 130):=((zak W w.heap.size #[.int .u16 0,.bool false,.int .u8 0,.bool false,.bool false,.bool false,.bool false,.bool false,.bool false,.bool false,.int .u8 0]).block _ (Z9 r1) (by simp)).trans r1
 have r0':(W.setRow w.heap.size #[.int .u16 0,.bool false,.int .u8 0,.bool false,.bool false,.bool false,.bool false,.bool false,.bool false,.bool false,.int .u8 0]).heap[w.heap.size]? =some (.cells #[.int .u16 0,.bool false,.int .u8 0,.bool false,.bool false,.bool false,.bool false,.bool false,.bool false,.bool false,.int .u8 0] 30):=setRow_heap W _ _ _ _ _ r0
 go_upto_region 2 with fail
 refine wp_region_lit ?_
 repeat(first
  |(refine Go.wpList_store_rowTo rfl 30 (.tmp 2) (.tmp 18) rfl rfl w.heap.size #[.int .u16 0,.bool false,.int .u8 0,.bool false,.bool false,.bool false,.bool false,.bool false,.bool false,.bool false,.int .u8 0] rfl rfl 30 _ r0 (by kernel_rfl) rfl (by kernel_rfl) ?_)
  |(refine Go.wpList_store_rowTo rfl 130 (.tmp 3) (.tmp 19) rfl rfl (w.heap.size+1) #[.int .i64 0,.int .i64 0,.int .i64 0,.int .i64 0] rfl rfl 130 _ r1' (by kernel_rfl) rfl (by kernel_rfl) ?_)
  |go_step)
 (try simp only[Exit.inBlock,Exit.then])
 have q0:=((zak (W.setRow w.heap.size #[.int .u16 0,.bool false,.int .u8 0,.bool false,.bool false,.bool false,.bool false,.bool false,.bool false,.bool false,.int .u8 0]) (w.heap.size+1) #[.int .i64 0,.int .i64 0,.int .i64 0,.int .i64 0]).block _ (Z9 r0') (by simp)).trans r0'
 refine bodyPost_ret (zgl rfl _ _ w.heap.size (w.heap.size+1) _ _ _ _ _ _ _ _ rfl q0 Tryz.underlying30 rfl (by kernel_rfl) rfl (setRow_heap (W.setRow w.heap.size #[.int .u16 0,.bool false,.int .u8 0,.bool false,.bool false,.bool false,.bool false,.bool false,.bool false,.bool false,.int .u8 0]) _ _ _ _ _ r1') Tryz.underlying130 rfl (by kernel_rfl)) rfl ?_
 refine⟨rfl,Below.grown (Below.grown dC (zak W _ _) dC.size (fun k hk=>by injection hk with hk;omega)) (zak _ _ _) ?_ (fun k hk=>by injection hk with hk;omega)⟩
 have:=dC.size
 simpa[World.setRow]using this
theorem zmp {w:World} {g:Nat} {a b c d:Int} (h:w.heap[g]? =some (.cells #[.int .i64 a,.int .i64 b,.int .i64 c,.int .i64 d] 130)):
 w.cell? ⟨g,0,none⟩=some (.int .i64 a)∧w.cell? ⟨g,1,none⟩=some (.int .i64 b)∧w.cell? ⟨g,2,none⟩=some (.int .i64 c)∧w.cell? ⟨g,3,none⟩=some (.int .i64 d)∧∀j,w.frozen? ⟨g,j,none⟩=false:=by
 refine⟨?_,?_,?_,?_,fun j=>?_⟩<;>simp[World.cell?,World.frozen?,h]
theorem zlc (s:List UInt8) (k:Nat):wrap64 (n16 s k:Int)=(n16 s k:Int):=by
 have:=zdl s k
 unfold wrap64;omega
def cRow (a b c d:Nat):Nat→Array Value
 |0=> #[.int .i64 0,.int .i64 0,.int .i64 0,.int .i64 0]
 |1=> #[.int .i64 (a:Int),.int .i64 0,.int .i64 0,.int .i64 0]
 |2=> #[.int .i64 (a:Int),.int .i64 (b:Int),.int .i64 0,.int .i64 0]
 |3=> #[.int .i64 (a:Int),.int .i64 (b:Int),.int .i64 (c:Int),.int .i64 0]
 |_=> #[.int .i64 (a:Int),.int .i64 (b:Int),.int .i64 (c:Int),.int .i64 (d:Int)]
theorem zA5 (s:List UInt8) (w:World) (hg:Laid w) (hb:BitsAt w) (hs:12≤s.length) (iF:s.length≤maxLen):
 Calls Tryz.prog 66 #[S s] w fun e w'=>e=.returned (.tuple #[hdV (za1 (n16 s 0) (n16 s 2)),cnV (n16 s 4) (n16 s 6) (n16 s 8) (n16 s 10),.int .i64 0])∧Ext w w':=by
 obtain⟨W,hW⟩:∃W,W=(w.alloc (.cells #[.int .u16 0,.bool false,.int .u8 0,.bool false,.bool false,.bool false,.bool false,.bool false,.bool false,.bool false,.int .u8 0] 30)).alloc (.cells #[.int .i64 0,.int .i64 0,.int .i64 0,.int .i64 0] 130):=⟨_,rfl⟩
 have dC:Ext w W:=by rw[hW];exact((Z5 _).alloc _).alloc _
 have r1:W.heap[w.heap.size+1]? =some (.cells #[.int .i64 0,.int .i64 0,.int .i64 0,.int .i64 0] 130):=by rw[hW];exact heap_alloc2_new w _ _
 have r0:W.heap[w.heap.size]? =some (.cells #[.int .u16 0,.bool false,.int .u8 0,.bool false,.bool false,.bool false,.bool false,.bool false,.bool false,.bool false,.int .u8 0] 30):=by
  rw[hW];have h1:=heap_alloc_new w (.cells #[.int .u16 0,.bool false,.int .u8 0,.bool false,.bool false,.bool false,.bool false,.bool false,.bool false,.bool false,.int .u8 0] 30)
  rw[heap_alloc_old _ _ (Z9 h1)];exact h1
 have ab:¬((s.length:Int)<12):=by omega
 go_enter Tryz.func66,Tryz.ntmps66;go_upto_region 1 with fail
 rw[←hW];clear hW;go_wp2_with fail;refine(zot s W).mono ?_;rintro e w1 ⟨rfl,a5,ae,rf⟩;obtain⟨cp,fE⟩:∃cp,cp=W.heap.size:=⟨_,rfl⟩
 rw[←fE]at a5 rf ⊢;have FT:W.heap.size≤cp:=by omega
 have mV:w.heap.size+1<cp:=by have:=(Z9 r1);omega
 clear fE;have n0:zal 2 s 0=.ok (n16 s 0,2):=zi5 (by omega)
 have FV:=Z7 (zg8 a5 iF n0)
 go_wp2_with fail;refine FV.out.mono ?_;rintro e w2 ⟨rfl,eW⟩;have eF:Ext W w2:=ae.then eW.below (by omega)
 have n1:zal 2 s 2=.ok (n16 s 2,4):=zi5 (by omega)
 have FW:=Z7 (zg8 eW.row iF n1)
 clear n0 n1 a5 eW;go_wp2_with fail;refine FW.out.mono ?_;rintro e w3 ⟨rfl,dI⟩;have bK:Ext W w3:=eF.then dI.below (by omega)
 have dJ:=dI.row
 have HF:=Z7 (zA4 (n16 s 2) w3 (hb.ext (dC.trans bK)) (by have:=zdl s 2;omega))
 clear dI;go_wp2_with fail;refine HF.out.mono ?_;rintro e w4 ⟨rfl,aL⟩;go_upto_region 8 with fail
 obtain⟨W5,gJ⟩:∃W5,W5=w4.alloc (.cells #[.int .u16 (n16 s 0:Int),.bool (za1 0 (n16 s 2)).qr,.int .u8 (za1 0 (n16 s 2)).op,.bool (za1 0 (n16 s 2)).aa,.bool (za1 0 (n16 s 2)).tc,.bool (za1 0 (n16 s 2)).rd,.bool (za1 0 (n16 s 2)).ra,.bool (za1 0 (n16 s 2)).z,.bool (za1 0 (n16 s 2)).ad,.bool (za1 0 (n16 s 2)).cd,.int .u8 (za1 0 (n16 s 2)).code] 30):=⟨_,rfl⟩
 have AD:=heap_alloc_new w4 (.cells #[.int .u16 (n16 s 0:Int),.bool (za1 0 (n16 s 2)).qr,.int .u8 (za1 0 (n16 s 2)).op,.bool (za1 0 (n16 s 2)).aa,.bool (za1 0 (n16 s 2)).tc,.bool (za1 0 (n16 s 2)).rd,.bool (za1 0 (n16 s 2)).ra,.bool (za1 0 (n16 s 2)).z,.bool (za1 0 (n16 s 2)).ad,.bool (za1 0 (n16 s 2)).cd,.int .u8 (za1 0 (n16 s 2)).code] 30)
 have am:Ext w4 W5:=by rw[gJ];exact(Z5 _).alloc _
 have kU:W5.heap.size=w4.heap.size+1:=by rw[gJ];simp
 rw[←gJ]at AD ⊢;clear gJ;obtain⟨cQ,AE⟩:∃cQ,cQ=w4.heap.size:=⟨_,rfl⟩
 have rl:=(aL.block cp (Z9 dJ)).trans dJ
 have FY:cp<cQ:=by rw[AE];exact(Z9 rl)
 have vB:=(am.block cp (by omega)).trans rl
 rw[←AE]at AD kU ⊢;have gJ:Ext W W5:=(bK.trans aL).trans am
 clear AE;go_upto_region 9 with fail
 obtain⟨W6,gf⟩:∃W6,W6=W5.alloc (.cells #[.int .i64 0,.int .i64 0,.int .i64 0,.int .i64 0] 130):=⟨_,rfl⟩
 have AF:=heap_alloc_new W5 (.cells #[.int .i64 0,.int .i64 0,.int .i64 0,.int .i64 0] 130)
 have aw:Ext W5 W6:=by rw[gf];exact(Z5 _).alloc _
 rw[kU,←gf]at AF;rw[←gf];clear gf;have vC:=(aw.block cp (by omega)).trans vB
 have Do:=(aw.block cQ (by omega)).trans AD
 have kZ:Ext W W6:=gJ.trans aw
 have FZ:W.heap.size≤cQ:=by omega
 clear kU rl vB aL am aw dJ;go_wp2_with fail
 go_loopw [12,13,14,36] (fun _ _ _ s36 wr=>∃k:Nat,k≤4∧s36=.int .i64 k∧wr.heap[cp]? =some (.cells (zbn s (4+2*k)) 226)∧wr.heap[cQ+1]? =some (.cells (cRow (n16 s 4) (n16 s 6) (n16 s 8) (n16 s 10) k) 130)∧wr.heap[cQ]? =some (.cells #[.int .u16 (n16 s 0:Int),.bool (za1 0 (n16 s 2)).qr,.int .u8 (za1 0 (n16 s 2)).op,.bool (za1 0 (n16 s 2)).aa,.bool (za1 0 (n16 s 2)).tc,.bool (za1 0 (n16 s 2)).rd,.bool (za1 0 (n16 s 2)).ra,.bool (za1 0 (n16 s 2)).z,.bool (za1 0 (n16 s 2)).ad,.bool (za1 0 (n16 s 2)).cd,.int .u8 (za1 0 (n16 s 2)).code] 30)∧Ext W wr) (fun _ _ _ s36 _=>4 - (intOf s36).toNat)
 case atStart=>exact⟨0,by omega,rfl,vC,AF,Do,kZ⟩
 case round=>
  obtain⟨k,hk,rfl,yt,fj,ij,hE⟩:=hrel
  obtain⟨wo,rfl⟩:∃wo:World,wo=wr:=⟨_,rfl⟩
  clear vC AF Do kZ;rcases Nat.lt_or_ge k 4 with hk8|hk8
  ·rcases(by omega:k=0∨k=1∨k=2∨k=3)with rfl|rfl|rfl|rfl
   ·have hc:((0:Nat):Int)=0:=rfl
    have nk:zal 2 s (4+2*0)=.ok (n16 s 4,6):=zi5 (by omega)
    have HT:=Z7 (zg8 yt iF nk)
    clear hc nk;go_wp2_with fail;refine HT.out.mono ?_;rintro e wb ⟨rfl,aK⟩;have dy:=aK.kept.row fj (by omega) (by omega)
    have jj:=aK.kept.row ij (by omega) (by omega)
    have lR:=aK.row
    have iW:Ext W wb:=hE.then aK.below (by omega)
    have lD:=(Z9 dy)
    obtain⟨c0,c1,c2,c3,cf⟩:=zmp dy
    have cfk:=cf 0
    clear aK HT;go_wp2_with fail;refine⟨⟨1,by omega,rfl,(Below.heap_setCell _ _ _ _ (by dsimp only;omega)).trans lR,(za2 dy 0 _).trans (by rw[zlc];rfl),(Below.heap_setCell _ _ _ _ (by dsimp only;omega)).trans jj,Ext.setCell iW (by dsimp only;omega) _⟩,by simp[intOf]⟩
   ·have hc:((1:Nat):Int)=1:=rfl
    have nk:zal 2 s (4+2*1)=.ok (n16 s 6,8):=zi5 (by omega)
    have HT:=Z7 (zg8 yt iF nk)
    clear hc nk;go_wp2_with fail;refine HT.out.mono ?_;rintro e wb ⟨rfl,aK⟩;have dy:=aK.kept.row fj (by omega) (by omega)
    have jj:=aK.kept.row ij (by omega) (by omega)
    have lR:=aK.row
    have iW:Ext W wb:=hE.then aK.below (by omega)
    have lD:=(Z9 dy)
    obtain⟨c0,c1,c2,c3,cf⟩:=zmp dy
    have cfk:=cf 1
    clear aK HT;go_wp2_with fail;refine⟨⟨2,by omega,rfl,(Below.heap_setCell _ _ _ _ (by dsimp only;omega)).trans lR,(za2 dy 1 _).trans (by rw[zlc];rfl),(Below.heap_setCell _ _ _ _ (by dsimp only;omega)).trans jj,Ext.setCell iW (by dsimp only;omega) _⟩,by simp[intOf]⟩
   ·have hc:((2:Nat):Int)=2:=rfl
    have nk:zal 2 s (4+2*2)=.ok (n16 s 8,10):=zi5 (by omega)
    have HT:=Z7 (zg8 yt iF nk)
    clear hc nk;go_wp2_with fail;refine HT.out.mono ?_;rintro e wb ⟨rfl,aK⟩;have dy:=aK.kept.row fj (by omega) (by omega)
    have jj:=aK.kept.row ij (by omega) (by omega)
    have lR:=aK.row
    have iW:Ext W wb:=hE.then aK.below (by omega)
    have lD:=(Z9 dy)
    obtain⟨c0,c1,c2,c3,cf⟩:=zmp dy
    have cfk:=cf 2
    clear aK HT;go_wp2_with fail;refine⟨⟨3,by omega,rfl,(Below.heap_setCell _ _ _ _ (by dsimp only;omega)).trans lR,(za2 dy 2 _).trans (by rw[zlc];rfl),(Below.heap_setCell _ _ _ _ (by dsimp only;omega)).trans jj,Ext.setCell iW (by dsimp only;omega) _⟩,by simp[intOf]⟩
   ·have hc:((3:Nat):Int)=3:=rfl
    have nk:zal 2 s (4+2*3)=.ok (n16 s 10,12):=zi5 (by omega)
    have HT:=Z7 (zg8 yt iF nk)
    clear hc nk;go_wp2_with fail;refine HT.out.mono ?_;rintro e wb ⟨rfl,aK⟩;have dy:=aK.kept.row fj (by omega) (by omega)
    have jj:=aK.kept.row ij (by omega) (by omega)
    have lR:=aK.row
    have iW:Ext W wb:=hE.then aK.below (by omega)
    have lD:=(Z9 dy)
    obtain⟨c0,c1,c2,c3,cf⟩:=zmp dy
    have cfk:=cf 3
    clear aK HT;go_wp2_with fail;refine⟨⟨4,by omega,rfl,(Below.heap_setCell _ _ _ _ (by dsimp only;omega)).trans lR,(za2 dy 3 _).trans (by rw[zlc];rfl),(Below.heap_setCell _ _ _ _ (by dsimp only;omega)).trans jj,Ext.setCell iW (by dsimp only;omega) _⟩,by simp[intOf]⟩
  ·obtain rfl:k=4:=by omega
   have hc:((4:Nat):Int)=4:=rfl
   go_upto_region 15 with fail
   have hw:Ext w wo.drew:=(dC.trans hE).drew
   have a0:=Z8 hE r0
   have a1:=Z8 hE r1
   have b1:(wo.drew.setRow w.heap.size #[.int .u16 (n16 s 0:Int),.bool (za1 0 (n16 s 2)).qr,.int .u8 (za1 0 (n16 s 2)).op,.bool (za1 0 (n16 s 2)).aa,.bool (za1 0 (n16 s 2)).tc,.bool (za1 0 (n16 s 2)).rd,.bool (za1 0 (n16 s 2)).ra,.bool (za1 0 (n16 s 2)).z,.bool (za1 0 (n16 s 2)).ad,.bool (za1 0 (n16 s 2)).cd,.int .u8 (za1 0 (n16 s 2)).code]).heap[w.heap.size+1]? =some (.cells #[.int .i64 0,.int .i64 0,.int .i64 0,.int .i64 0] 130):=((zak wo.drew w.heap.size #[.int .u16 (n16 s 0:Int),.bool (za1 0 (n16 s 2)).qr,.int .u8 (za1 0 (n16 s 2)).op,.bool (za1 0 (n16 s 2)).aa,.bool (za1 0 (n16 s 2)).tc,.bool (za1 0 (n16 s 2)).rd,.bool (za1 0 (n16 s 2)).ra,.bool (za1 0 (n16 s 2)).z,.bool (za1 0 (n16 s 2)).ad,.bool (za1 0 (n16 s 2)).cd,.int .u8 (za1 0 (n16 s 2)).code]).block _ (Z9 a1) (by simp)).trans a1
   have b0:(wo.drew.setRow w.heap.size #[.int .u16 (n16 s 0:Int),.bool (za1 0 (n16 s 2)).qr,.int .u8 (za1 0 (n16 s 2)).op,.bool (za1 0 (n16 s 2)).aa,.bool (za1 0 (n16 s 2)).tc,.bool (za1 0 (n16 s 2)).rd,.bool (za1 0 (n16 s 2)).ra,.bool (za1 0 (n16 s 2)).z,.bool (za1 0 (n16 s 2)).ad,.bool (za1 0 (n16 s 2)).cd,.int .u8 (za1 0 (n16 s 2)).code]).heap[w.heap.size]? =some (.cells #[.int .u16 (n16 s 0:Int),.bool (za1 0 (n16 s 2)).qr,.int .u8 (za1 0 (n16 s 2)).op,.bool (za1 0 (n16 s 2)).aa,.bool (za1 0 (n16 s 2)).tc,.bool (za1 0 (n16 s 2)).rd,.bool (za1 0 (n16 s 2)).ra,.bool (za1 0 (n16 s 2)).z,.bool (za1 0 (n16 s 2)).ad,.bool (za1 0 (n16 s 2)).cd,.int .u8 (za1 0 (n16 s 2)).code] 30):=setRow_heap wo.drew _ _ _ _ _ a0
   refine wp_region_noPanic ?_;refine za6 (S:=fun V=>V.heap[cQ]? =some (.cells #[.int .u16 (n16 s 0:Int),.bool (za1 0 (n16 s 2)).qr,.int .u8 (za1 0 (n16 s 2)).op,.bool (za1 0 (n16 s 2)).aa,.bool (za1 0 (n16 s 2)).tc,.bool (za1 0 (n16 s 2)).rd,.bool (za1 0 (n16 s 2)).ra,.bool (za1 0 (n16 s 2)).z,.bool (za1 0 (n16 s 2)).ad,.bool (za1 0 (n16 s 2)).cd,.int .u8 (za1 0 (n16 s 2)).code] 30)∧V.heap[cQ+1]? =some (.cells #[.int .i64 (n16 s 4:Int),.int .i64 (n16 s 6:Int),.int .i64 (n16 s 8:Int),.int .i64 (n16 s 10:Int)] 130)) (.take 0 (.take 1 (.run 2 (.run 3 (.take 4 .done))))) (by kernel_rfl) (by kernel_rfl) (fun _ _ _ _ _ h=>h) ⟨ij,fj⟩ ?_
   refine za4 (v:=?_) (by rfl) (by rfl) ?_ ?_
   rotate_left
   (focus(intro V hV;refine zce 30 (.tmp 10) ?_ cQ 0 ?_ _ (zba hV.1) _ Tryz.underlying30 ?_ ?_;(focus rfl);(focus rfl);(focus rfl);(focus kernel_rfl)))
   (try simp only[ap])
   refine za4 (v:=?_) (by rfl) (by rfl) ?_ ?_
   rotate_left
   (focus(intro V hV;refine zce 130 (.tmp 11) ?_ (cQ+1) 0 ?_ _ (zba hV.2) _ Tryz.underlying130 ?_ ?_;(focus rfl);(focus rfl);(focus rfl);(focus kernel_rfl)))
   (try simp only[ap])
   refine za5 (by rfl) (fun K hK=>?_)
   rw[if_pos (by rfl)]
   refine wp_store_row 30 (.tmp 2) (.tmp 49) rfl w.heap.size #[.int .u16 (n16 s 0:Int),.bool (za1 0 (n16 s 2)).qr,.int .u8 (za1 0 (n16 s 2)).op,.bool (za1 0 (n16 s 2)).aa,.bool (za1 0 (n16 s 2)).tc,.bool (za1 0 (n16 s 2)).rd,.bool (za1 0 (n16 s 2)).ra,.bool (za1 0 (n16 s 2)).z,.bool (za1 0 (n16 s 2)).ad,.bool (za1 0 (n16 s 2)).cd,.int .u8 (za1 0 (n16 s 2)).code] rfl rfl 30 _ a0 (by kernel_rfl) rfl (by kernel_rfl) ?_
   refine hK.out _ _ ⟨((zak wo.drew w.heap.size #[.int .u16 (n16 s 0:Int),.bool (za1 0 (n16 s 2)).qr,.int .u8 (za1 0 (n16 s 2)).op,.bool (za1 0 (n16 s 2)).aa,.bool (za1 0 (n16 s 2)).tc,.bool (za1 0 (n16 s 2)).rd,.bool (za1 0 (n16 s 2)).ra,.bool (za1 0 (n16 s 2)).z,.bool (za1 0 (n16 s 2)).ad,.bool (za1 0 (n16 s 2)).cd,.int .u8 (za1 0 (n16 s 2)).code]).block _ (Z9 ij) (by simp;omega)).trans ij,((zak wo.drew w.heap.size #[.int .u16 (n16 s 0:Int),.bool (za1 0 (n16 s 2)).qr,.int .u8 (za1 0 (n16 s 2)).op,.bool (za1 0 (n16 s 2)).aa,.bool (za1 0 (n16 s 2)).tc,.bool (za1 0 (n16 s 2)).rd,.bool (za1 0 (n16 s 2)).ra,.bool (za1 0 (n16 s 2)).z,.bool (za1 0 (n16 s 2)).ad,.bool (za1 0 (n16 s 2)).cd,.int .u8 (za1 0 (n16 s 2)).code]).block _ (Z9 fj) (by simp;omega)).trans fj⟩ ?_
   clear hK K
   (try simp only[ap])
   refine za5 (by rfl) (fun K hK=>?_)
   rw[if_pos (by rfl)]
   refine wp_store_row 130 (.tmp 3) (.tmp 50) rfl (w.heap.size+1) #[.int .i64 (n16 s 4:Int),.int .i64 (n16 s 6:Int),.int .i64 (n16 s 8:Int),.int .i64 (n16 s 10:Int)] rfl rfl 130 _ b1 (by kernel_rfl) rfl (by kernel_rfl) ?_
   have g1:=zak wo.drew w.heap.size #[.int .u16 (n16 s 0:Int),.bool (za1 0 (n16 s 2)).qr,.int .u8 (za1 0 (n16 s 2)).op,.bool (za1 0 (n16 s 2)).aa,.bool (za1 0 (n16 s 2)).tc,.bool (za1 0 (n16 s 2)).rd,.bool (za1 0 (n16 s 2)).ra,.bool (za1 0 (n16 s 2)).z,.bool (za1 0 (n16 s 2)).ad,.bool (za1 0 (n16 s 2)).cd,.int .u8 (za1 0 (n16 s 2)).code]
   have g2:=zak (wo.drew.setRow w.heap.size #[.int .u16 (n16 s 0:Int),.bool (za1 0 (n16 s 2)).qr,.int .u8 (za1 0 (n16 s 2)).op,.bool (za1 0 (n16 s 2)).aa,.bool (za1 0 (n16 s 2)).tc,.bool (za1 0 (n16 s 2)).rd,.bool (za1 0 (n16 s 2)).ra,.bool (za1 0 (n16 s 2)).z,.bool (za1 0 (n16 s 2)).ad,.bool (za1 0 (n16 s 2)).cd,.int .u8 (za1 0 (n16 s 2)).code]) (w.heap.size+1) #[.int .i64 (n16 s 4:Int),.int .i64 (n16 s 6:Int),.int .i64 (n16 s 8:Int),.int .i64 (n16 s 10:Int)]
   have fP:(wo.drew.setRow w.heap.size #[.int .u16 (n16 s 0:Int),.bool (za1 0 (n16 s 2)).qr,.int .u8 (za1 0 (n16 s 2)).op,.bool (za1 0 (n16 s 2)).aa,.bool (za1 0 (n16 s 2)).tc,.bool (za1 0 (n16 s 2)).rd,.bool (za1 0 (n16 s 2)).ra,.bool (za1 0 (n16 s 2)).z,.bool (za1 0 (n16 s 2)).ad,.bool (za1 0 (n16 s 2)).cd,.int .u8 (za1 0 (n16 s 2)).code]).heap.size=wo.heap.size:=by simp[World.setRow]
   have k1:=(g1.block _ (Z9 ij) (by simp;omega)).trans ij
   have k2:=(g1.block _ (Z9 fj) (by simp;omega)).trans fj
   have m1:=(g2.block _ (Z9 k1) (by simp;omega)).trans k1
   have m2:=(g2.block _ (Z9 k2) (by simp;omega)).trans k2
   have q0:=(g2.block _ (Z9 b0) (by simp)).trans b0
   have q1:=setRow_heap (wo.drew.setRow w.heap.size #[.int .u16 (n16 s 0:Int),.bool (za1 0 (n16 s 2)).qr,.int .u8 (za1 0 (n16 s 2)).op,.bool (za1 0 (n16 s 2)).aa,.bool (za1 0 (n16 s 2)).tc,.bool (za1 0 (n16 s 2)).rd,.bool (za1 0 (n16 s 2)).ra,.bool (za1 0 (n16 s 2)).z,.bool (za1 0 (n16 s 2)).ad,.bool (za1 0 (n16 s 2)).cd,.int .u8 (za1 0 (n16 s 2)).code]) _ _ #[.int .i64 (n16 s 4:Int),.int .i64 (n16 s 6:Int),.int .i64 (n16 s 8:Int),.int .i64 (n16 s 10:Int)] _ _ b1
   have eH:Ext w ((wo.drew.setRow w.heap.size #[.int .u16 (n16 s 0:Int),.bool (za1 0 (n16 s 2)).qr,.int .u8 (za1 0 (n16 s 2)).op,.bool (za1 0 (n16 s 2)).aa,.bool (za1 0 (n16 s 2)).tc,.bool (za1 0 (n16 s 2)).rd,.bool (za1 0 (n16 s 2)).ra,.bool (za1 0 (n16 s 2)).z,.bool (za1 0 (n16 s 2)).ad,.bool (za1 0 (n16 s 2)).cd,.int .u8 (za1 0 (n16 s 2)).code]).setRow (w.heap.size+1) #[.int .i64 (n16 s 4:Int),.int .i64 (n16 s 6:Int),.int .i64 (n16 s 8:Int),.int .i64 (n16 s 10:Int)]):=by
    refine Below.grown (Below.grown hw g1 hw.size (fun k hk=>by injection hk with hk;omega)) g2 ?_ (fun k hk=>by injection hk with hk;omega)
    rw[fP];exact hw.size
   refine hK.out _ _ ⟨m1,m2⟩ ?_;clear hK K m1 m2 k1 k2 b0 b1
   (try simp only[ap])
   refine za4 (v:=?_) (by rfl) (by rfl) ?_ ?_
   rotate_left
   (focus(intro V hV;(try dsimp only at hV);(go_simp<;>with_reducible rfl)))
   (try simp only[ap])
   refine zag ?_;refine NoPanic.normal ?_;go_wp2_with fail
   (try simp only[Exit.inBlock,Exit.then])
   refine bodyPost_ret (zgl rfl _ _ w.heap.size (w.heap.size+1) _ _ _ _ _ _ _ _ rfl q0 Tryz.underlying30 rfl (by kernel_rfl) rfl q1 Tryz.underlying130 rfl (by kernel_rfl)) rfl ?_
   exact⟨rfl,eH⟩
structure RdX (w:World) (g cp:Nat) (M:Array Value) (d:List UInt8) (p:Nat):Prop where
 box:w.heap[g]? =some (.cells M 143)
 m0:M[0]? =some (S d)
 m1:M[1]? =some (.pointer (some ⟨cp,0,none⟩))
 cur:w.heap[cp]? =some (.cells (zbn d p) 226)
 ne:g≠cp
 pd:p≤d.length
theorem RdX.c0 {w:World} {g cp p:Nat} {M:Array Value} {d:List UInt8} (h:RdX w g cp M d p):w.cell? ⟨g,0,none⟩=some (S d):=by
 have:=h.m0;simp[World.cell?,h.box,this]
theorem RdX.c1 {w:World} {g cp p:Nat} {M:Array Value} {d:List UInt8} (h:RdX w g cp M d p):w.cell? ⟨g,1,none⟩=some (.pointer (some ⟨cp,0,none⟩)):=by
 have:=h.m1;simp[World.cell?,h.box,this]
theorem RdX.ext {w w':World} {g cp p:Nat} {M:Array Value} {d:List UInt8} (h:RdX w g cp M d p) (hE:Ext w w'):RdX w' g cp M d p:=
 ⟨(hE.block g (Z9 h.box)).trans h.box,h.m0,h.m1,(hE.block cp (Z9 h.cur)).trans h.cur,h.ne,h.pd⟩
theorem RdX.lt {w:World} {g cp p:Nat} {M:Array Value} {d:List UInt8} (h:RdX w g cp M d p):g<w.heap.size∧cp<w.heap.size:=⟨(Z9 h.box),(Z9 h.cur)⟩
structure GoX (lo g cp:Nat) (M:Array Value) (d:List UInt8) (p:Nat) (w w':World):Prop where
 rd:RdX w' g cp M d p
 kept:KeptB g cp w w'
 below:Below lo w w'
theorem RdX.st {w w':World} {lo g cp p p':Nat} {M:Array Value} {d:List UInt8} (h:RdX w g cp M d p) (hs:StX cp d p' w w') (ak:lo≤cp) (hp:p'≤d.length):GoX lo g cp M d p' w w':=
 ⟨⟨hs.kept.row h.box h.ne h.ne,h.m0,h.m1,hs.row,h.ne,hp⟩,hs.kept.two,hs.below.mono ak⟩
theorem GoX.after {w w1 w':World} {lo g cp p:Nat} {M:Array Value} {d:List UInt8} (h:GoX lo g cp M d p w1 w') (hE:Ext w w1) (ak:lo≤w.heap.size):GoX lo g cp M d p w w':=
 ⟨h.rd,(KeptB.ext hE).trans h.kept,(hE.mono ak).trans h.below⟩
theorem GoX.more {w w1 w':World} {lo g cp p p1:Nat} {M M1:Array Value} {d:List UInt8} (h:GoX lo g cp M d p w1 w') (k:GoX lo g cp M1 d p1 w w1):GoX lo g cp M d p w w':=
 ⟨h.rd,k.kept.trans h.kept,k.below.trans h.below⟩
theorem GoX.ext {w w1 w':World} {lo g cp p:Nat} {M:Array Value} {d:List UInt8} (h:GoX lo g cp M d p w w1) (hE:Ext w1 w') (ak:lo≤w.heap.size):GoX lo g cp M d p w w':=
 ⟨h.rd.ext hE,h.kept.trans (KeptB.ext hE),h.below.trans (hE.mono (Z2 ak h.kept.1))⟩
section
variable {w : World} {lo g cp p p' v x : Nat} {M : Array Value} {d n : List UInt8}
theorem zjz (h:RdX w g cp M d p) (ak:lo≤cp) (hd:d.length≤65535) (hn:zal 2 d p=.ok (v,p')):
 Calls Tryz.prog 76 #[.pointer (some ⟨g,0,none⟩)] w fun e w'=>e=.returned (.int .u16 (v:Int))∧GoX lo g cp M d p' w w':=by
 obtain⟨e1,gI,hv⟩:=zc2 hn
 have HT:=Z7 (zg8 h.cur (by unfold maxLen;omega) hn)
 have HG:=Z7 (fun w' (hs:StX cp d p' w w')=>h.st hs ak (by omega))
 have c1:=h.c1
 have HM:=Z7 (fun V=>zdb V)
 clear hn h e1 hv;go_enter Tryz.func76,Tryz.ntmps76;go_wp2_with fail;refine HT.out.mono ?_;rintro e w1 ⟨rfl,hs⟩;go_wp2_with fail;refine(HM.out _).mono ?_;rintro e w2 ⟨rfl,rfl⟩;go_wp2_with fail;go_ret;exact⟨rfl,HG.out _ hs⟩
theorem zgj (h:RdX w g cp M d p) (ak:lo≤cp) (hg:Laid w) (hd:d.length≤65535) (hn:zal 2 d p=.error x):
 Calls Tryz.prog 76 #[.pointer (some ⟨g,0,none⟩)] w fun e w'=>e=zgb x∧Below lo w w':=by
 obtain⟨rfl,_⟩:=zcv hn
 have HT:=Z7 (zlm h.cur hg (by unfold maxLen;omega) h.pd hn)
 have c1:=h.c1
 have hz:=h.lt
 have HM:=Z7 (fun V=>zcs 4 (by omega) V)
 clear hn h;go_enter Tryz.func76,Tryz.ntmps76;go_wp2_with fail;refine HT.out.mono ?_;rintro e w1 ⟨rfl,hE⟩;go_wp2_with fail;refine(HM.out _).mono ?_;rintro e w2 ⟨rfl,rfl⟩;go_wp2_with fail;exact⟨rfl,rfl,hE.mono (by omega)⟩
theorem ztz (h:RdX w g cp M d p) (ak:lo≤cp) (hg:Laid w) (hd:d.length≤65535) (hn:zbj d p=.ok (n,p')):
 Calls Tryz.prog 75 #[.pointer (some ⟨g,0,none⟩)] w fun e w'=>e=.returned (S n)∧GoX lo g cp M d p' w w':=by
 have hr:=zgr hn
 have aB:=ze2 d p
 have HR:=Z7 (fun V (hV:Ext w V)=>zj2 d p V (hg.ext hV) (by omega) h.pd)
 rw[hr]at HR aB;dsimp only at HR aB;have HA:=Z7 (zxd (h.ext (Z5 w).drew).cur)
 have HM:=Z7 (fun V=>zdb V)
 have HX:=Z7 (fun V (hV:Ext w V)=>(h.ext hV).cur)
 have F0:=Z7 (fun V (hV:Ext w V) w' (hs:StX cp d p' V w')=>((h.ext hV).st hs ak aB.1).after hV (by have:=h.lt;omega))
 have c0:=h.c0
 have c1:=h.c1
 have HC:=Z7 (fun V (hV:Ext w V)=>(h.ext hV).c1)
 clear hn hr;go_enter Tryz.func75,Tryz.ntmps75;go_upto_region 1 with fail
 refine wp_region_noPanic ?_;refine za6 (S:=fun V=>V.cell? ⟨g,0,none⟩=some (S d)∧V.cell? ⟨g,1,none⟩=some (.pointer (some ⟨cp,0,none⟩))) (.take 0 (.take 1 (.take 2 (.take 3 (.take 4 (.take 5 (.take 6 (.take 7 (.run 8 (.run 9 (.take 10 (.take 11 (.take 12 (.take 13 (.take 14 (.take 15 (.take 16 .done))))))))))))))))) (by kernel_rfl) (by kernel_rfl) (fun _ _ _ _ _ h=>h) ⟨c0,c1⟩ ?_
 repeat((with_reducible refine za7 ?_);first
  |(refine za4 (v:=?_) (by rfl) (by rfl) ?_ ?_;rotate_left;(focus(intro V hV;obtain⟨cX,gp⟩:=hV;(go_simp<;>with_reducible rfl)));(try simp only[ap])))
 refine za5 (by rfl) (fun K hK=>?_)
 go_simp;refine HA.out.mono ?_;rintro e w1 ⟨rfl,rfl⟩;refine hK.out _ _ ⟨c0,c1⟩ ?_;clear hK K
 (try simp only[ap])
 refine za5 (by rfl) (fun K hK=>?_)
 go_simp;refine(HR.out _ ((Z5 w).drew)).mono ?_;rintro e w2 ⟨rfl,ah⟩;have bI:Ext w w2:=Ext.trans ((Z5 w).drew) ah
 refine hK.out _ _ ⟨(h.ext bI).c0,HC.out _ bI⟩ ?_;clear hK K
 (try simp only[ap])
 repeat((with_reducible refine za7 ?_);first
  |(refine za4 (v:=?_) (by rfl) (by rfl) ?_ ?_;rotate_left;(focus(intro V hV;obtain⟨cX,gp⟩:=hV;(go_simp<;>with_reducible rfl)));(try simp only[ap])))
 refine zag ?_;refine NoPanic.normal ?_;have k1:=HC.out _ bI
 have HS:=Z7 (zEu p' (HX.out _ bI) (by unfold maxLen;omega) aB.1)
 go_wp2_with fail;refine(HM.out _).mono ?_;rintro e w3 ⟨rfl,rfl⟩;go_wp2_with fail;refine HS.out.mono ?_;rintro e w4 ⟨rfl,gg⟩;go_wp2_with fail;refine(HM.out _).mono ?_;rintro e w5 ⟨rfl,rfl⟩;go_wp2_with fail;go_ret;exact⟨rfl,F0.out _ bI _ gg⟩
theorem znh (h:RdX w g cp M d p) (ak:lo≤cp) (hg:Laid w) (hd:d.length≤65535) (hn:zbj d p=.error x):
 Calls Tryz.prog 75 #[.pointer (some ⟨g,0,none⟩)] w fun e w'=>e=zgb x∧Below lo w w':=by
 obtain⟨k9,hr⟩:=zim hn
 have HR:=Z7 (fun V (hV:Ext w V)=>zj2 d p V (hg.ext hV) (by omega) h.pd)
 rw[hr]at HR;have HA:=Z7 (zxd (h.ext (Z5 w).drew).cur)
 have HM:=Z7 (fun V=>zcs x k9 V)
 have hz:=h.lt
 have c0:=h.c0
 have c1:=h.c1
 have HC:=Z7 (fun V (hV:Ext w V)=>(show V.cell? ⟨g,0,none⟩=some (S d)∧V.cell? ⟨g,1,none⟩=some (.pointer (some ⟨cp,0,none⟩))from⟨(h.ext hV).c0,(h.ext hV).c1⟩))
 clear hn hr k9;generalize (readN d p).1=rn at*;generalize (readN d p).2.1=rp at*;go_enter Tryz.func75,Tryz.ntmps75;go_upto_region 1 with fail
 refine wp_region_noPanic ?_;refine za6 (S:=fun V=>V.cell? ⟨g,0,none⟩=some (S d)∧V.cell? ⟨g,1,none⟩=some (.pointer (some ⟨cp,0,none⟩))) (.take 0 (.take 1 (.take 2 (.take 3 (.take 4 (.take 5 (.take 6 (.take 7 (.run 8 (.run 9 (.take 10 (.take 11 (.take 12 (.take 13 (.take 14 (.take 15 (.take 16 .done))))))))))))))))) (by kernel_rfl) (by kernel_rfl) (fun _ _ _ _ _ h=>h) ⟨c0,c1⟩ ?_
 repeat((with_reducible refine za7 ?_);first
  |(refine za4 (v:=?_) (by rfl) (by rfl) ?_ ?_;rotate_left;(focus(intro V hV;obtain⟨cX,gp⟩:=hV;(go_simp<;>with_reducible rfl)));(try simp only[ap])))
 refine za5 (by rfl) (fun K hK=>?_)
 go_simp;refine HA.out.mono ?_;rintro e w1 ⟨rfl,rfl⟩;refine hK.out _ _ ⟨c0,c1⟩ ?_;clear hK K
 (try simp only[ap])
 refine za5 (by rfl) (fun K hK=>?_)
 go_simp;refine(HR.out _ ((Z5 w).drew)).mono ?_;rintro e w2 ⟨rfl,ah⟩;have bI:Ext w w2:=Ext.trans ((Z5 w).drew) ah
 refine hK.out _ _ (HC.out _ bI) ?_;clear hK K
 (try simp only[ap])
 repeat((with_reducible refine za7 ?_);first
  |(refine za4 (v:=?_) (by rfl) (by rfl) ?_ ?_;rotate_left;(focus(intro V hV;obtain⟨cX,gp⟩:=hV;(go_simp<;>with_reducible rfl)));(try simp only[ap])))
 refine zag ?_;refine NoPanic.normal ?_;go_wp2_with fail;refine(HM.out _).mono ?_;rintro e w3 ⟨rfl,rfl⟩;go_wp2_with fail;exact⟨rfl,rfl,bI.mono (by omega)⟩
end
abbrev zd5 (d:List UInt8) (cp:Nat) (h:HdD) (q a u x:Value) (ed:Option EdD) (o:Value):Array Value:=
 #[S d,.pointer (some ⟨cp,0,none⟩),.int .u16 h.id,.bool h.qr,.int .u8 h.op,.bool h.aa,.bool h.tc,.bool h.rd,.bool h.ra,.bool h.z,.bool h.ad,.bool h.cd,.int .u8 h.code,q,a,u,x,.bool ed.isSome,.int .u16 (ed.getD za8).size,.int .u8 (ed.getD za8).ext,.int .u8 (ed.getD za8).ver,.int .u16 (ed.getD za8).flags,o]
theorem za0 {w:World} {g j:Nat} {M:Array Value} {v:Value} {t:TypeId} {fr:Nat×Nat} (h:w.heap[g]? =some (.cells M t fr)) (hv:M[j]? =some v):w.cell? ⟨g,j,none⟩=some v:=by simp[World.cell?,h,hv]
theorem za3 {w:World} {g j:Nat} {M:Array Value} {t:TypeId} (h:w.heap[g]? =some (.cells M t (0,0))):w.frozen? ⟨g,j,none⟩=false:=by simp[World.frozen?,h]
theorem zFs {W:World} {lo g:Nat} {M:Array Value} {t:TypeId} (hb:W.heap[g]? =some (.cells M t)) (v1 v2 v3 v4 v5 v6:Value) (ak:lo≤g):
 (((((((W.setCell ⟨g,17,none⟩ v1).setCell ⟨g,18,none⟩ v2).setCell ⟨g,19,none⟩ v3).setCell ⟨g,20,none⟩ v4).setCell ⟨g,21,none⟩ v5).setCell ⟨g,22,none⟩ v6).drew.heap[g]? =some (.cells ((((((M.setIfInBounds 17 v1).setIfInBounds 18 v2).setIfInBounds 19 v3).setIfInBounds 20 v4).setIfInBounds 21 v5).setIfInBounds 22 v6) t))∧
 (∀b,b≠g→((((((W.setCell ⟨g,17,none⟩ v1).setCell ⟨g,18,none⟩ v2).setCell ⟨g,19,none⟩ v3).setCell ⟨g,20,none⟩ v4).setCell ⟨g,21,none⟩ v5).setCell ⟨g,22,none⟩ v6).drew.heap[b]? =W.heap[b]?)∧
 Below lo W ((((((W.setCell ⟨g,17,none⟩ v1).setCell ⟨g,18,none⟩ v2).setCell ⟨g,19,none⟩ v3).setCell ⟨g,20,none⟩ v4).setCell ⟨g,21,none⟩ v5).setCell ⟨g,22,none⟩ v6).drew:=by
 have e:∀X:World,X.drew.heap=X.heap:=fun _=>rfl
 refine⟨?_,fun b au=>?_,?_⟩
 ·rw[e];have r1:=za2 hb 17 v1
  have r2:=za2 r1 18 v2
  have r3:=za2 r2 19 v3
  have r4:=za2 r3 20 v4
  have r5:=za2 r4 21 v5
  exact za2 r5 22 v6
 ·rw[e,Below.heap_setCell _ _ _ b au,Below.heap_setCell _ _ _ b au,Below.heap_setCell _ _ _ b au,Below.heap_setCell _ _ _ b au,Below.heap_setCell _ _ _ b au,Below.heap_setCell _ _ _ b au]
 ·exact(((((((Below.refl lo W).setCell (p:=⟨g,17,none⟩) ak v1).setCell (p:=⟨g,18,none⟩) ak v2).setCell (p:=⟨g,19,none⟩) ak v3).setCell (p:=⟨g,20,none⟩) ak v4).setCell (p:=⟨g,21,none⟩) ak v5).setCell (p:=⟨g,22,none⟩) ak v6).drew
section
variable {w : World} {lo g cp p cls ttl k : Nat} {d dat n : List UInt8} {hd : HdD} {q a u xx o : Value} {x : EdD} {ed : Option EdD} {more : Bool} {t : Int}
theorem zqg (h:RdX w g cp (zd5 d cp hd q a u xx ed o) d p) (ak:lo≤cp) (bp:more=false∨ed.isSome=true∨n≠[0]):
 Calls Tryz.prog 138 #[.pointer (some ⟨g,0,none⟩),zu0 ⟨n,t,cls,ttl,dat⟩,.bool more] w fun e w'=>e=zgb 3∧Below lo w w':=by
 have hz:=h.lt
 have HM:=Z7 (fun V=>zcs 3 (by omega) V)
 have c17:w.cell? ⟨g,17,none⟩=some (.bool ed.isSome):=za0 h.box rfl
 rcases more with _|_
 ·clear c17 h bp;go_enter Tryz.func138,Tryz.ntmps138;go_wp2_with fail;refine(HM.out _).mono ?_;rintro e w1 ⟨rfl,rfl⟩;go_wp2_with fail;exact⟨rfl,rfl,((Z5 w).alloc _).mono (by omega)⟩
 ·rcases he:ed.isSome with _|_
  ·rw[he]at c17 bp;have f1:(n==[0])=false:=by
    rw[beq_eq_false_iff_ne];rcases bp with hb|hb|hb
    ·cases hb
    ·cases hb
    ·exact hb
   clear he h bp;go_enter Tryz.func138,Tryz.ntmps138;go_wp2_with fail;refine(HM.out _).mono ?_;rintro e w1 ⟨rfl,rfl⟩;go_wp2_with fail;exact⟨rfl,rfl,((Z5 w).alloc _).mono (by omega)⟩
  ·rw[he]at c17;clear he h bp;go_enter Tryz.func138,Tryz.ntmps138;go_wp2_with fail;refine(HM.out _).mono ?_;rintro e w1 ⟨rfl,rfl⟩;go_wp2_with fail;exact⟨rfl,rfl,((Z5 w).alloc _).mono (by omega)⟩
theorem zs5 (h:RdX w g cp (zd5 d cp hd q a u xx none o) d p) (ak:lo≤cp) (hg:Laid w) (hc:cls≤65535) (ht:ttl≤4294967295) (hdl:dat.length≤65535) (hx:edR cls ttl dat=.error k) (hk:k≠0):
 Calls Tryz.prog 138 #[.pointer (some ⟨g,0,none⟩),zu0 ⟨[0],t,cls,ttl,dat⟩,.bool true] w fun e w'=>e=zgb k∧Below lo w w':=by
 have hz:=h.lt
 have HM:=Z7 (fun V=>zcs k hk V)
 have HR:=Z7 (fun V (hV:Ext w V)=>zqy cls ttl dat V (hg.ext hV) (by omega) hc ht)
 rw[hx]at HR;have c17:w.cell? ⟨g,17,none⟩=some (.bool false):=za0 h.box rfl
 have f1:(([0]:List UInt8)==[0])=true:=rfl
 clear h hx hk;go_enter Tryz.func138,Tryz.ntmps138;go_wp2_with fail;refine(HR.out _ ((Z5 w).alloc _)).mono ?_;rintro e w1 ⟨⟨k',cU,rfl⟩|⟨x,v,vD,_,_⟩,ae⟩;rotate_left
 ·cases vD
 injection cU with cU
 subst cU;have co:Ext w w1:=((Z5 w).alloc _).trans ae
 go_wp2_with fail;refine(HM.out _).mono ?_;rintro e w2 ⟨rfl,rfl⟩;go_wp2_with fail;exact⟨rfl,rfl,(co.alloc _).mono (by omega)⟩
theorem zyf (h:RdX w g cp (zd5 d cp hd q a u xx none o) d p) (ak:lo≤cp) (jk:lo≤g) (hg:Laid w) (hc:cls≤65535) (ht:ttl≤4294967295) (hdl:dat.length≤65535) (hx:edR cls ttl dat=.ok x):
 Calls Tryz.prog 138 #[.pointer (some ⟨g,0,none⟩),zu0 ⟨[0],t,cls,ttl,dat⟩,.bool true] w fun e w'=>e=.returned (.tuple #[])∧∃o',GoX lo g cp (zd5 d cp hd q a u xx (some x) o') d p w w'∧OptsT w' w.heap.size o' x.opts:=by
 have hz:=h.lt
 have HM:=Z7 (fun V=>zdb V)
 have HR:=Z7 (fun V (hV:Ext w V)=>zqy cls ttl dat V (hg.ext hV) (by omega) hc ht)
 rw[hx]at HR;have c17:w.cell? ⟨g,17,none⟩=some (.bool false):=za0 h.box rfl
 have f1:(([0]:List UInt8)==[0])=true:=rfl
 have HH:=Z7 h
 clear h hx;go_enter Tryz.func138,Tryz.ntmps138;go_wp2_with fail;refine(HR.out _ ((Z5 w).alloc _)).mono ?_;rintro e w1 ⟨⟨k',cU,_⟩|⟨x',v,vD,rfl,hv⟩,ae⟩
 ·cases cU
 injection vD with vD
 subst vD;have Dp:=hv.lower (lo':=w.heap.size) (by simp)
 obtain⟨oA,oc,rfl,bm,aI,jJ,cV⟩:=hv
 have co:Ext w w1:=((Z5 w).alloc _).trans ae
 go_wp2_with fail;refine(HM.out _).mono ?_;rintro e w2 ⟨rfl,rfl⟩;have bI:=co.alloc (.cells #[.int .u16 x.size,.int .u8 x.ext,.int .u8 x.ver,.int .u16 x.flags,.slice oA x.opts.length oc] 43)
 have cj:=(HH.out.ext bI).box
 have k17:=za0 (j:=17) cj rfl
 have k18:=za0 (j:=18) cj rfl
 have k19:=za0 (j:=19) cj rfl
 have k20:=za0 (j:=20) cj rfl
 have k21:=za0 (j:=21) cj rfl
 have k22:=za0 (j:=22) cj rfl
 have f17:=za3 (j:=17) cj
 have f18:=za3 (j:=18) cj
 have f19:=za3 (j:=19) cj
 have f20:=za3 (j:=20) cj
 have f21:=za3 (j:=21) cj
 have f22:=za3 (j:=22) cj
 obtain⟨W,hW⟩:∃W,W=w1.alloc (.cells #[.int .u16 x.size,.int .u8 x.ext,.int .u8 x.ver,.int .u16 x.flags,.slice oA x.opts.length oc] 43):=⟨_,rfl⟩
 have ln:=heap_alloc_new w1 (.cells #[.int .u16 x.size,.int .u8 x.ext,.int .u8 x.ver,.int .u16 x.flags,.slice oA x.opts.length oc] 43)
 have AG:=Z7 (show Ext w1 W by rw[hW];exact(Z5 _).alloc _)
 rw[←hW]at bI cj k17 k18 k19 k20 k21 k22 f17 f18 f19 f20 f21 f22 ln;have j0:=za0 (j:=0) ln rfl
 have j1:=za0 (j:=1) ln rfl
 have j2:=za0 (j:=2) ln rfl
 have j3:=za0 (j:=3) ln rfl
 have j4:=za0 (j:=4) ln rfl
 go_upto_region 5 with fail
 rw[←hW];clear hW;go_region;obtain⟨gp,oj,eX⟩:=zFs (lo:=lo) cj (.bool true) (.int .u16 x.size) (.int .u8 x.ext) (.int .u8 x.ver) (.int .u16 x.flags) (.slice oA x.opts.length oc) jk
 have vF:=(HH.out.ext bI).cur
 go_wp2_with fail
 go_end0
 have eD:KeptB g cp w W:=KeptB.ext bI
 refine⟨rfl,.slice oA x.opts.length oc,⟨⟨gp,rfl,rfl,(oj cp (fun e=>HH.out.ne e.symm)).trans vF,HH.out.ne,HH.out.pd⟩,⟨Z2 eD.1 eX.size,fun b hb h1 h2=>(oj b h1).trans (eD.2 b hb h1 h2)⟩,(bI.mono (by omega)).trans eX⟩,?_⟩
 exact(Dp.ext AG.out).by_ fun k hk=>oj k (fun e=>by have:=(Dp.lt k hk).1;omega)
end
theorem zlt:(Tryz.prog.info? 99).map (fun i=>(i.zero,i.size,i.bytes))=some (some (.agg #[.string ⟨#[]⟩,.int .u16 0,.int .u16 0,.int .u32 0,.string ⟨#[]⟩]),5,40):=by kernel_rfl
def ORec7 (w:World) (lo:Nat) (v:Value) (l:List RecD):Prop:=∃A c,v=.slice A l.length c∧Own w lo 99 5 A l.length c (l.flatMap zaq)
theorem ORec7.keptB {g cp:Nat} {w w':World} {lo:Nat} {v:Value} {l:List RecD} (h:ORec7 w lo v l) (hk:KeptB g cp w w') (h1:g<lo) (h2:cp<lo):ORec7 w' lo v l:=by
 obtain⟨A,c,e,ho⟩:=h;exact⟨A,c,e,ho.keptB hk h1 h2⟩
theorem ORec7.recs {w:World} {lo:Nat} {v:Value} {l:List RecD} (h:ORec7 w lo v l):Recs w lo v l:=by
 obtain⟨A,c,e,h1⟩:=h;exact⟨A,c,e,h1.cap.1,h1.cap.2,h1.rd⟩
theorem zky (r:RecD):∀u∈zaq r,u.oneCell'=true:=by
 intro u hu;simp only[zaq,List.mem_cons,List.not_mem_nil,or_false]at hu;rcases hu with rfl|rfl|rfl|rfl|rfl<;>rfl
theorem KeptB.rowx {g cp b i:Nat} {W w:World} (h:KeptB g cp W w) (hb:W.heap.size≤b) (u:Value):KeptB g cp W (w.setCell ⟨b,i,none⟩ u):=
 ⟨by simpa using h.1,fun x hx h1 h2=>(Below.heap_setCell w ⟨b,i,none⟩ u x (by dsimp only;omega)).trans (h.2 x hx h1 h2)⟩
theorem GoX.setNew {w w1:World} {lo g cp p b:Nat} {M:Array Value} {d:List UInt8} (h:GoX lo g cp M d p w w1) (hz:g<w.heap.size∧cp<w.heap.size) (ak:lo≤cp) (hb:w.heap.size≤b) (i:Nat) (u:Value):GoX lo g cp M d p w (w1.setCell ⟨b,i,none⟩ u):=
 ⟨⟨(Below.heap_setCell w1 ⟨b,i,none⟩ u g (by dsimp only;omega)).trans h.rd.box,h.rd.m0,h.rd.m1,(Below.heap_setCell w1 ⟨b,i,none⟩ u cp (by dsimp only;omega)).trans h.rd.cur,h.rd.ne,h.rd.pd⟩,h.kept.rowx hb u,h.below.setCell (by dsimp only;omega) u⟩
theorem GoX.refl {w:World} {lo g cp p:Nat} {M:Array Value} {d:List UInt8} (h:RdX w g cp M d p):GoX lo g cp M d p w w:=⟨h,KeptB.refl _ _ _,Below.refl _ _⟩
theorem GoX.grown {w w1 w2:World} {lo l2 g cp p n c sz:Nat} {e:TypeId} {A:Option Addr} {xs:List Value} {M:Array Value} {d:List UInt8} (h:GoX lo g cp M d p w w1) (hz:g<l2∧cp<l2) (ho:Own w1 l2 e sz A n c xs) (hg:w1.grownBy w2 (Value.slice A n c).ownBlock) (hb:Below l2 w1 w2) (ak:lo≤l2) (pw:w.heap.size≤l2):GoX lo g cp M d p w w2:=
 ⟨⟨(hb.block g hz.1).trans h.rd.box,h.rd.m0,h.rd.m1,(hb.block cp hz.2).trans h.rd.cur,h.rd.ne,h.rd.pd⟩,h.kept.grown ho pw hg,h.below.trans (hb.mono ak)⟩
def zC5 (lo l2 g cp:Nat) (d:List UInt8) (hd:HdD) (q a u xx:Value) (R:Except Nat (List RecD×Option EdD×Nat)) (w:World) (e:Ending) (w':World):Prop:=
 (∃k,k≠0∧R=.error k∧e=zgb k∧Below lo w w')∨
 (∃l ed p o v,R=.ok (l,ed,p)∧e=.returned v∧GoX lo g cp (zd5 d cp hd q a u xx ed o) d p w w'∧OptsT w' l2 o (ed.getD za8).opts∧ORec7 w' w.heap.size v l)
structure RsInv (w:World) (lo l2 g cp:Nat) (d:List UInt8) (hd:HdD) (q a u xx:Value) (more:Bool) (R:Except Nat (List RecD×Option EdD×Nat)) (n k p:Nat) (ed:Option EdD) (o:Value) (l:List RecD) (A:Option Addr) (c:Nat) (wr:World):Prop where
 kn:k≤n
 ll:l.length≤k
 go:GoX lo g cp (zd5 d cp hd q a u xx ed o) d p w wr
 op:OptsT wr l2 o (ed.getD za8).opts
 own:Own wr w.heap.size 99 5 A l.length c (l.flatMap zaq)
 ld:Laid wr
 eq:R=zgf l (zao d more (n - k) ed p)
theorem GoX.ext0 {w w':World} {lo g cp p:Nat} {M:Array Value} {d:List UInt8} (h:GoX lo g cp M d p w w') (hg:Laid w) (h1:3≠g) (h2:3≠cp):Laid w':=by
 have hz:=hg.lt
 have:=h.kept.2 _ hz h1 h2
 unfold Laid at*;simp only[World.cell?,this];exact hg
theorem zjh (w:World) (lo l2 g cp p n:Nat) (d:List UInt8) (hd:HdD) (q a u xx o:Value) (ed:Option EdD) (more:Bool) (h:RdX w g cp (zd5 d cp hd q a u xx ed o) d p) (ak:lo≤cp) (jk:lo≤g) (hg:Laid w) (cS:3≠g) (a9:3≠cp) (hdl:d.length≤65535) (hn:n≤65535) (ho:OptsT w l2 o (ed.getD za8).opts) (eT:g<l2) (kQ:cp<l2) (qi:l2≤w.heap.size):
 Calls Tryz.prog 77 #[.pointer (some ⟨g,0,none⟩),.int .i64 n,.bool more] w (zC5 lo l2 g cp d hd q a u xx (zao d more n ed p) w):=by
 obtain⟨R,hR⟩:∃R,R=zao d more n ed p:=⟨_,rfl⟩
 rw[←hR];have hz:=h.lt
 obtain⟨i0,aH,aF,aC,ax⟩:=info_parts zlt
 have HI:=Z7 (show RsInv w lo l2 g cp d hd q a u xx more R n 0 p ed o [] none 0 w from⟨Nat.zero_le _,by simp,GoX.refl h,ho,Own.nil _ _ _ _,hg,by rw[hR,zxy];rfl⟩)
 have HM:=Z7 (fun V=>zdb V)
 have yu:=hg
 clear hR ho h hg;go_enter Tryz.func77,Tryz.ntmps77;go_wp2_with fail
 go_loopw [7,8,9,10,11,12,13,15] (fun s7 _ _ _ _ _ _ s15 wr=>∃(k p':Nat) (ed':Option EdD) (o':Value) (l:List RecD) (A:Option Addr) (c:Nat),s15=.int .i64 k∧s7=.slice A l.length c∧RsInv w lo l2 g cp d hd q a u xx more R n k p' ed' o' l A c wr) (fun _ _ _ _ _ _ _ s15 _=>n - (intOf s15).toNat)
 case atStart=>exact⟨0,p,ed,o,[],none,0,rfl,rfl,HI.out⟩
 case round=>
  obtain⟨k,p0,ed1,o1,l,A,c,rfl,rfl,hI⟩:=hrel
  obtain⟨wo,rfl⟩:∃wo:World,wo=wr:=⟨_,rfl⟩
  clear HI;have vG:=hI.kn
  have fZ:=hI.ll
  by_cases ab:k<n
  ·have cz:(k:Int)<(n:Int):=by omega
   have iO:n - k=(n - (k+1))+1:=by omega
   have cJ:=Z7 hI.eq
   rw[iO]at cJ;have gG:g<wo.heap.size∧cp<wo.heap.size:=⟨Z1 hz.1 hI.go.kept.1,Z1 hz.2 hI.go.kept.1⟩
   have cI:=hI.go.kept.1
   have G0:GoX lo g cp (zd5 d cp hd q a u xx ed1 o1) d p0 wo wo:=GoX.refl hI.go.rd
   have bZ:=Z7 hI
   have gq:=hI.ld
   clear hI iO;rcases hN:zbj d p0 with x|⟨nm,p1⟩
   ·have HF:=Z7 (cJ.out.trans (zeh l (zk1 hN)))
    have k9:=(zim hN).1
    have HC:=Z7 (znh G0.rd ak gq hdl hN)
    clear hN;go_wp2_with fail;refine HC.out.mono ?_;rintro e w2 ⟨rfl,hB⟩;go_wp2_with fail;exact⟨rfl,.inl ⟨x,k9,HF.out,rfl,bZ.out.go.below.trans hB⟩⟩
   have HC:=Z7 (ztz G0.rd ak gq hdl hN)
   have HN:=Z7 hN
   clear hN;go_wp2_with fail;refine HC.out.mono ?_;rintro e w2 ⟨rfl,G2⟩;go_upto_region 5 with fail
   obtain⟨b,hb⟩:∃b,b=w2.heap.size:=⟨_,rfl⟩
   obtain⟨W3,bK⟩:∃W3,W3=w2.alloc (.cells #[S nm,.int .u16 0,.int .u16 0,.int .u32 0,S []] 99):=⟨_,rfl⟩
   have b3:W3.heap[b]? =some (.cells #[S nm,.int .u16 0,.int .u16 0,.int .u32 0,S []] 99):=by rw[bK,hb];exact heap_alloc_new _ _
   have jl:lo≤wo.heap.size:=by omega
   have G3:GoX lo g cp (zd5 d cp hd q a u xx ed1 o1) d p1 wo W3:=by rw[bK];exact G2.ext ((Z5 _).alloc _) jl
   have pI:wo.heap.size≤b:=by rw[hb];exact G2.kept.1
   have jy:b≠g:=by omega
   have la:b≠cp:=by omega
   have L3:=G3.ext0 gq cS a9
   rw[←bK,←hb];clear bK hb;rcases h3:zal 2 d p1 with x|⟨ty,p2⟩
   ·have HF:=Z7 (cJ.out.trans (zeh l (zk2 HN.out h3)))
    have HC:=Z7 (zgj G3.rd ak L3 hdl h3)
    obtain⟨rfl,_⟩:=zcv h3
    clear h3;go_wp2_with fail;refine HC.out.mono ?_;rintro e w9 ⟨rfl,hB⟩;go_wp2_with fail;exact⟨rfl,.inl ⟨4,by omega,HF.out,rfl,bZ.out.go.below.trans (G3.below.trans hB)⟩⟩
   have HC:=Z7 (zjz G3.rd ak hdl h3)
   have vb3:=zck h3
   have H3:=Z7 h3
   clear h3;go_wp2_with fail;refine HC.out.mono ?_;rintro e w4 ⟨rfl,G'⟩;have b'3:=G'.kept.row b3 jy la
   have G'3:=G'.more G3
   clear G' HC;have cc:=za0 (j:=1) b'3 rfl
   have fc:=za3 (j:=1) b'3
   go_upto_region 6 with fail
   have b4:(w4.setCell ⟨b,1,none⟩ (.int .u16 (ty:Int))).heap[b]? =some (.cells #[S nm,.int .u16 (ty:Int),.int .u16 0,.int .u32 0,S []] 99):=za2 b'3 1 _
   have G4:=G'3.setNew gG ak pI 1 (.int .u16 (ty:Int))
   clear cc fc;obtain⟨W4,hW⟩:∃W4,W4=w4.setCell ⟨b,1,none⟩ (.int .u16 (ty:Int)):=⟨_,rfl⟩
   rw[←hW]at b4 G4 ⊢;clear hW G'3 b'3 G3 b3;have L4:=G4.ext0 gq cS a9
   rcases h4:zal 2 d p2 with x|⟨cl,p3⟩
   ·have HF:=Z7 (cJ.out.trans (zeh l (zk3 HN.out H3.out h4)))
    have HC:=Z7 (zgj G4.rd ak L4 hdl h4)
    obtain⟨rfl,_⟩:=zcv h4
    clear h4;go_wp2_with fail;refine HC.out.mono ?_;rintro e w9 ⟨rfl,hB⟩;go_wp2_with fail;exact⟨rfl,.inl ⟨4,by omega,HF.out,rfl,bZ.out.go.below.trans (G4.below.trans hB)⟩⟩
   have HC:=Z7 (zjz G4.rd ak hdl h4)
   have vb4:=zck h4
   have H4:=Z7 h4
   clear h4;go_wp2_with fail;refine HC.out.mono ?_;rintro e w5 ⟨rfl,G'⟩;have b'4:=G'.kept.row b4 jy la
   have G'4:=G'.more G4
   clear G' HC;have cc:=za0 (j:=2) b'4 rfl
   have fc:=za3 (j:=2) b'4
   go_upto_region 7 with fail
   have b5:(w5.setCell ⟨b,2,none⟩ (.int .u16 (cl:Int))).heap[b]? =some (.cells #[S nm,.int .u16 (ty:Int),.int .u16 (cl:Int),.int .u32 0,S []] 99):=za2 b'4 2 _
   have G5:=G'4.setNew gG ak pI 2 (.int .u16 (cl:Int))
   clear cc fc;obtain⟨W5,hW⟩:∃W5,W5=w5.setCell ⟨b,2,none⟩ (.int .u16 (cl:Int)):=⟨_,rfl⟩
   rw[←hW]at b5 G5 ⊢;clear hW G'4 b'4 G4 b4;have L5:=G5.ext0 gq cS a9
   have c5:=G5.rd.c1
   rcases h5:zal 4 d p3 with x|⟨tt,p4⟩
   ·have HF:=Z7 (cJ.out.trans (zeh l (zk4 HN.out H3.out H4.out h5)))
    have HC:=Z7 (zxe G5.rd.cur L5 (by unfold maxLen;omega) G5.rd.pd h5)
    have vH:=Z7 (fun V=>zcs 4 (by omega) V)
    obtain⟨rfl,_⟩:=zcv h5
    clear h5;go_wp2_with fail;refine HC.out.mono ?_;rintro e w9 ⟨rfl,hE⟩;go_wp2_with fail;refine(vH.out _).mono ?_;rintro e w10 ⟨rfl,rfl⟩;go_wp2_with fail;exact⟨rfl,.inl ⟨4,by omega,HF.out,rfl,bZ.out.go.below.trans (G5.below.trans (hE.mono (by have:=G5.rd.lt;omega)))⟩⟩
   have HC:=Z7 (zEt G5.rd.cur (by unfold maxLen;omega) h5)
   have vb5:=zo6 h5
   have rj:p4≤d.length:=by have:=zc2 h5;omega
   have H5:=Z7 h5
   clear h5;go_wp2_with fail;refine HC.out.mono ?_;rintro e w6 ⟨rfl,hs⟩;have G'5:=(G5.rd.st hs ak rj).more G5
   have b'5:=hs.kept.row b5 la la
   clear hs HC c5;have cc:=za0 (j:=3) b'5 rfl
   have fc:=za3 (j:=3) b'5
   go_wp2_with fail;refine(HM.out _).mono ?_;rintro e w9 ⟨rfl,rfl⟩;go_upto_region 10 with fail
   have b6:(w6.setCell ⟨b,3,none⟩ (.int .u32 (tt:Int))).heap[b]? =some (.cells #[S nm,.int .u16 (ty:Int),.int .u16 (cl:Int),.int .u32 (tt:Int),S []] 99):=za2 b'5 3 _
   have G6:=G'5.setNew gG ak pI 3 (.int .u32 (tt:Int))
   clear cc fc;obtain⟨W6,hW⟩:∃W6,W6=w6.setCell ⟨b,3,none⟩ (.int .u32 (tt:Int)):=⟨_,rfl⟩
   rw[←hW]at b6 G6 ⊢;clear hW G'5 b'5 G5 b5;have L6:=G6.ext0 gq cS a9
   rcases h6:zal 2 d p4 with x|⟨sz,p5⟩
   ·have HF:=Z7 (cJ.out.trans (zeh l (zk5 HN.out H3.out H4.out H5.out h6)))
    have HC:=Z7 (zgj G6.rd ak L6 hdl h6)
    obtain⟨rfl,_⟩:=zcv h6
    clear h6;go_wp2_with fail;refine HC.out.mono ?_;rintro e w9 ⟨rfl,hB⟩;go_wp2_with fail;exact⟨rfl,.inl ⟨4,by omega,HF.out,rfl,bZ.out.go.below.trans (G6.below.trans hB)⟩⟩
   have HC:=Z7 (zjz G6.rd ak hdl h6)
   have vb6:=zck h6
   have H6:=Z7 h6
   clear h6;go_wp2_with fail;refine HC.out.mono ?_;rintro e w7 ⟨rfl,G'⟩;have b'6:=G'.kept.row b6 jy la
   have G'6:=G'.more G6
   clear G' HC;have b7:=b'6
   have G7:=G'6
   clear G'6 b'6 G6 b6;have L7:=G7.ext0 gq cS a9
   have rm:=Z7 (zk0 (more:=more) (ed:=ed1) HN.out H3.out H4.out H5.out H6.out)
   have c7:=G7.rd.c1
   have HA:=Z7 (zxd G7.rd.cur)
   go_wp2_with fail;refine HA.out.mono ?_;rintro e w8 ⟨rfl,rfl⟩;rcases Nat.lt_or_ge d.length (p5+sz)with cZ|cZ
   ·have HF:=Z7 (cJ.out.trans (zeh l (rm.out.trans (if_pos cZ))))
    have HC:=Z7 (zou sz G7.rd.cur L7 (by unfold maxLen;omega) (by unfold maxLen;omega) G7.rd.pd cZ)
    have vH:=Z7 (fun V=>zcs 4 (by omega) V)
    clear cZ;go_wp2_with fail;refine HC.out.mono ?_;rintro e w9 ⟨rfl,hE⟩;go_wp2_with fail;refine(vH.out _).mono ?_;rintro e w10 ⟨rfl,rfl⟩;go_wp2_with fail;exact⟨rfl,.inl ⟨4,by omega,HF.out,rfl,bZ.out.go.below.trans (G7.below.trans (hE.mono (by have:=G7.rd.lt;omega)))⟩⟩
   have yv:=Z7 (rm.out.trans (if_neg (by omega)))
   have HC:=Z7 (zq2 sz G7.rd.cur (by unfold maxLen;omega) cZ)
   clear rm;go_wp2_with fail;refine HC.out.mono ?_;rintro e w9 ⟨rfl,hs⟩;have G9:=(G7.rd.st hs ak cZ).more G7
   have b9:=hs.kept.row b7 la la
   have L9:=G9.ext0 gq cS a9
   have c9:=G9.rd.c1
   have q1:=za0 (j:=1) b9 rfl
   have q4:=za0 (j:=4) b9 rfl
   have f4:=za3 (j:=4) b9
   clear hs HC c7 G7 b7 L7 HA;go_wp2_with fail;refine(HM.out _).mono ?_;rintro e w10 ⟨rfl,rfl⟩;generalize hraw:(d.drop p5).take sz=raw at*;have iK:raw.length≤65535:=by rw[←hraw,List.length_take,List.length_drop];omega
   clear hraw;by_cases dt:ty=41
   ·subst dt;have rx:=Z7 (yv.out.trans (if_pos rfl))
    clear yv;go_upto_region 16 with fail
    have b10:(w9.setCell ⟨b,4,none⟩ (S raw)).heap[b]? =some (.cells #[S nm,.int .u16 ((41:Nat):Int),.int .u16 (cl:Int),.int .u32 (tt:Int),S raw] 99):=za2 b9 4 _
    have G10:=G9.setNew gG ak pI 4 (S raw)
    obtain⟨W10,hW⟩:∃W10,W10=w9.setCell ⟨b,4,none⟩ (S raw):=⟨_,rfl⟩
    rw[←hW]at b10 G10 ⊢;clear hW q1 q4 f4 c9 b9 G9;have L10:=G10.ext0 gq cS a9
    have y0:=za0 (j:=0) b10 rfl
    have y1:=za0 (j:=1) b10 rfl
    have y2:=za0 (j:=2) b10 rfl
    have y3:=za0 (j:=3) b10 rfl
    have y4:=za0 (j:=4) b10 rfl
    by_cases bp:more=false∨ed1.isSome=true∨nm≠[0]
    ·have HF:=Z7 (cJ.out.trans (zeh l (rx.out.trans (if_pos bp))))
     have HC:=Z7 (zqg (t:=((41:Nat):Int)) (cls:=cl) (ttl:=tt) (dat:=raw) G10.rd ak bp)
     clear bp;go_wp2_with fail;refine HC.out.mono ?_;rintro e w11 ⟨rfl,hB⟩;go_wp2_with fail;exact⟨rfl,.inl ⟨3,by omega,HF.out,rfl,bZ.out.go.below.trans (G10.below.trans hB)⟩⟩
    have yw:=Z7 (rx.out.trans (if_neg bp))
    clear rx;have nH:more=true:=by rcases more with _|_;exact absurd (.inl rfl) bp;rfl
    have iE:ed1=none:=by rcases ed1 with _|_;rfl;exact absurd (.inr (.inl rfl)) bp
    have y8:nm=[0]:=by
     by_cases h:nm=[0]
     ·exact h
     ·exact absurd (.inr (.inr h)) bp
    subst nH iE y8;clear bp;rcases hE:edR cl tt raw with x|y
    ·rw[hE]at yw;have HF:=Z7 (cJ.out.trans (zeh l yw.out))
     have AH:=zwb hE
     subst AH;have HC:=Z7 (zs5 (t:=((41:Nat):Int)) G10.rd ak L10 (by omega) (by omega) iK hE (by omega))
     clear hE;go_wp2_with fail;refine HC.out.mono ?_;rintro e w11 ⟨rfl,hB⟩;go_wp2_with fail;exact⟨rfl,.inl ⟨4,by omega,HF.out,rfl,bZ.out.go.below.trans (G10.below.trans hB)⟩⟩
    rw[hE]at yw;have HF:=Z7 (cJ.out.trans (zrh l yw.out))
    have HC:=Z7 (zyf (t:=((41:Nat):Int)) G10.rd ak jk L10 (by omega) (by omega) iK hE)
    clear hE;go_wp2_with fail;refine HC.out.mono ?_;rintro e w11 ⟨rfl,o',G',bL⟩;have G11:=G'.more G10
    have AI:l2≤W10.heap.size:=Z2 qi (Z2 cI G10.kept.1)
    clear HC G';go_wp2_with fail;go_roundw
    case rel=>
     refine⟨k+1,p5+sz,some y,o',l,A,c,by go_num,rfl,⟨by omega,by omega,G11.more bZ.out.go,bL.lower AI,bZ.out.own.keptB G11.kept hz.1 hz.2,G11.ext0 gq cS a9,?_⟩⟩
     rw[HF.out];simp
    case measure=>simp[intOf];omega
   have rx:=Z7 (yv.out.trans (if_neg dt))
   clear yv;have n41:((ty:Int)==41)=false:=by rw[beq_eq_false_iff_ne];omega
   have HR:=Z7 (fun V (hV:Ext w9 V)=>zye d p5 sz (ty:Int) V ((G9.ext hV jl).ext0 gq cS a9) (by omega) cZ)
   generalize hSP:splitOf (d.take (p5+sz)) p5 (ty:Int)=SP at*;clear hSP;obtain⟨pcs,er⟩:=SP
   dsimp only at rx;go_upto_region 17 with fail
   have HQ:=Z7 (fun V (hV:Ext w9 V)=>(show V.cell? ⟨g,0,none⟩=some (S d)∧V.cell? ⟨b,1,none⟩=some (.int .u16 (ty:Int))from⟨(G9.rd.ext hV).c0,(hV.cell (p:=⟨b,1,none⟩) (Z9 b9)).trans q1⟩))
   refine wp_region_noPanic ?_;refine za6 (S:=fun V=>V.cell? ⟨g,0,none⟩=some (S d)∧V.cell? ⟨b,1,none⟩=some (.int .u16 (ty:Int))) (.take 0 (.take 1 (.take 2 (.take 3 (.take 4 (.take 5 (.take 6 (.take 7 (.run 8 (.take 9 (.take 10 (.take 11 (.take 12 (.run 13 (.take 14 .done))))))))))))))) (by kernel_rfl) (by kernel_rfl) (fun _ _ _ _ _ h=>h) (HQ.out _ (Z5 w9).drew) ?_
   repeat((with_reducible refine za7 ?_);first
    |(refine za4 (v:=?_) (by rfl) (by rfl) ?_ ?_;rotate_left;(focus(intro V hV;obtain⟨cX,gp⟩:=hV;(go_simp<;>with_reducible rfl)));(try simp only[ap])))
   refine za5 (by rfl) (fun K hK=>?_)
   go_simp;refine(HR.out _ ((Z5 w9).drew)).mono ?_;rintro e w10 ⟨rfl,vI⟩;have bg:Ext w9 w10:=Ext.trans ((Z5 w9).drew) vI
   refine hK.out _ _ (HQ.out _ bg) ?_;clear hK K
   (try simp only[ap])
   repeat((with_reducible refine za7 ?_);first
    |(refine za4 (v:=?_) (by rfl) (by rfl) ?_ ?_;rotate_left;(focus(intro V hV;obtain⟨cX,gp⟩:=hV;(go_simp<;>with_reducible rfl)));(try simp only[ap])))
   have G10:=G9.ext bg jl
   have b10:=(bg.block b (Z9 b9)).trans b9
   have s4:=za0 (j:=4) b10 rfl
   have sf4:=za3 (j:=4) b10
   have s1:=za0 (j:=1) b10 rfl
   clear q1 q4 f4 c9;refine za5 (by rfl) (fun K hK=>?_)
   go_simp;obtain⟨DT,yx⟩:∃DT,DT=(if er=0 then textOf pcs else[]):=⟨_,rfl⟩
   rw[←yx];have b11:(w10.setCell ⟨b,4,none⟩ (S DT)).heap[b]? =some (.cells #[S nm,.int .u16 (ty:Int),.int .u16 (cl:Int),.int .u32 (tt:Int),S DT] 99):=za2 b10 4 _
   have G11:=G10.setNew gG ak pI 4 (S DT)
   obtain⟨W11,hW⟩:∃W11,W11=w10.setCell ⟨b,4,none⟩ (S DT):=⟨_,rfl⟩
   show K _ (w10.setCell ⟨b,4,none⟩ (S DT))
   rw[←hW]at b11 G11 ⊢;clear hW s4 sf4 s1;refine hK.out _ _ ⟨G11.rd.c0,za0 (j:=1) b11 rfl⟩ ?_
   clear hK K
   (try simp only[ap])
   repeat((with_reducible refine za7 ?_);first
    |(refine za4 (v:=?_) (by rfl) (by rfl) ?_ ?_;rotate_left;(focus(intro V hV;obtain⟨cX,gp⟩:=hV;(go_simp<;>with_reducible rfl)));(try simp only[ap])))
   refine zag ?_;refine NoPanic.normal ?_;by_cases aJ:er=0
   rotate_left
   ·have HF:=Z7 (cJ.out.trans (zeh l (rx.out.trans (if_neg aJ))))
    have F5:=Z7 (fun V=>zcs er aJ V)
    have hG:=G11.below
    have ig:=Z7 aJ
    clear aJ;go_wp2_with fail;refine(F5.out _).mono ?_;rintro e w12 ⟨rfl,rfl⟩;go_wp2_with fail;exact⟨rfl,.inl ⟨er,ig.out,HF.out,rfl,bZ.out.go.below.trans hG⟩⟩
   have HF:=Z7 (cJ.out.trans (zrh l (rx.out.trans (if_pos aJ))))
   rw[if_pos aJ]at yx;rw[←yx]at HF;subst aJ;clear yx;have y0:=za0 (j:=0) b11 rfl
   have y1:=za0 (j:=1) b11 rfl
   have y2:=za0 (j:=2) b11 rfl
   have y3:=za0 (j:=3) b11 rfl
   have y4:=za0 (j:=4) b11 rfl
   have ag:=bZ.out.own.keptB G11.kept hz.1 hz.2
   have F6:w.heap.size≤W11.heap.size:=Z2 cI G11.kept.1
   go_wp2_with(first
    |(refine(HM.out _).mono ?_;rintro e w12 ⟨rfl,rfl⟩)
    |(at_builtin
      refine zad _ rfl (.tmp 81) (.tmp 83) _ rfl w.heap.size 99 i0 _ 5 40 Tryz.underlying40 aH aF aC ax rfl (by omega) A l.length c (l.flatMap zaq) rfl (ag.ext ((Z5 _).alloc _)) 0 _ 1 1 (zaq ⟨nm,(ty:Int),(cl:Int),(tt:Int),DT⟩) rfl (zaw _ _ (by simp) _ _ 1 5 rfl) (zky _) (by omega) (by omega) (by simp;omega) ?_
      intro A6 c6 w13 aQ dG dT dH)
    |fail)
   have G13:=((G11.ext ((Z5 W11).alloc _) jl).more bZ.out.go).grown (hz) (ag.ext ((Z5 _).alloc _)) dG dT (by omega) (Z4 _)
   have vJ:=((bZ.out.op.keptB G11.kept eT kQ).ext ((Z5 W11).alloc (.cells (zaq ⟨nm,(ty:Int),(cl:Int),(tt:Int),DT⟩).toArray 99))).grown (ag.ext ((Z5 _).alloc _)) (by decide) dG
   go_roundw
   case rel=>
    refine⟨k+1,p5+sz,ed1,o1,l++[⟨nm,(ty:Int),(cl:Int),(tt:Int),DT⟩],A6,c6,by go_num,by simp,⟨by omega,by simp;omega,G13,vJ,?_,G13.ext0 yu cS a9,?_⟩⟩
    ·simpa using aQ
    ·rw[HF.out];rfl
   case measure=>simp[intOf];omega
  ·obtain rfl:k=n:=by omega
   have HF:=Z7 (show R=.ok (l,ed1,p0)by
    rw[hI.eq,Nat.sub_self];simp[zao,zgf])
   have bZ:=Z7 hI
   clear hI;go_wp2_with fail;go_ret;exact .inr ⟨l,ed1,p0,o1,_,HF.out,rfl,bZ.out.go,bZ.out.op,⟨A,c,rfl,bZ.out.own⟩⟩
theorem zwg:(Tryz.prog.info? 32).map (fun i=>(i.zero,i.size,i.bytes))=some (some (.agg #[.string ⟨#[]⟩,.int .u16 0,.int .u16 0]),3,24):=by kernel_rfl
theorem zws (q:QD):∀u∈zcq q,u.oneCell'=true:=by
 intro u hu;simp only[zcq,List.mem_cons,List.not_mem_nil,or_false]at hu;rcases hu with rfl|rfl|rfl<;>rfl
structure QInv (Y:World) (lo g cp:Nat) (hd:HdD) (d:List UInt8) (R:Except Nat (List QD×Nat)) (n k p:Nat) (l:List QD) (A:Option Addr) (c:Nat) (wr:World):Prop where
 kn:k≤n
 ll:l.length≤k
 go:GoX lo g cp (zd5 d cp hd (.slice A l.length c) (.slice none 0 0) (.slice none 0 0) (.slice none 0 0) none (.slice none 0 0)) d p Y wr
 own:Own wr Y.heap.size 32 3 A l.length c (l.flatMap zcq)
 eq:R=zfr l (zbt d (n - k) p)
theorem GoX.setg {w w1:World} {lo g cp p j:Nat} {M:Array Value} {d:List UInt8} (h:GoX lo g cp M d p w w1) (hj:2≤j) (hm:2≤M.size) (u:Value) (ak:lo≤g):GoX lo g cp (M.setIfInBounds j u) d p w (w1.setCell ⟨g,j,none⟩ u):=by
 refine⟨⟨za2 h.rd.box j u,?_,?_,(Below.heap_setCell w1 ⟨g,j,none⟩ u cp (fun e=>h.rd.ne e.symm)).trans h.rd.cur,h.rd.ne,h.rd.pd⟩,h.kept.trans (KeptB.setg w1 j u),h.below.setCell ak u⟩
 ·rw[Array.getElem?_setIfInBounds_ne (by omega)];exact h.rd.m0
 ·rw[Array.getElem?_setIfInBounds_ne (by omega)];exact h.rd.m1
theorem ORec7.by_ {w w':World} {lo:Nat} {v:Value} {l:List RecD} (h:ORec7 w lo v l) (hk:∀k,lo≤k→k<w.heap.size→w'.heap[k]? =w.heap[k]?):ORec7 w' lo v l:=by
 obtain⟨A,c,e,ho⟩:=h
 refine⟨A,c,e,ho.1,?_⟩;rcases ho.2 with h3|⟨b,cap,cur,h3,hb,hh,h4⟩
 ·exact .inl h3
 ·exact .inr ⟨b,cap,cur,h3,hb,(hk b hb (Z9 hh)).trans hh,h4⟩
theorem ORec7.lower {w:World} {lo lo':Nat} {v:Value} {l:List RecD} (h:ORec7 w lo v l) (hl:lo'≤lo):ORec7 w lo' v l:=by
 obtain⟨A,c,e,ho⟩:=h
 exact⟨A,c,e,ho.lower hl⟩
def OQus (w:World) (lo:Nat) (v:Value) (l:List QD):Prop:=∃A c,v=.slice A l.length c∧Own w lo 32 3 A l.length c (l.flatMap zcq)
theorem OQus.by_ {w w':World} {lo:Nat} {v:Value} {l:List QD} (h:OQus w lo v l) (hk:∀k,lo≤k→k<w.heap.size→w'.heap[k]? =w.heap[k]?):OQus w' lo v l:=by
 obtain⟨A,c,e,ho⟩:=h
 refine⟨A,c,e,ho.1,?_⟩;rcases ho.2 with h3|⟨b,cap,cur,h3,hb,hh,h4⟩
 ·exact .inl h3
 ·exact .inr ⟨b,cap,cur,h3,hb,(hk b hb (Z9 hh)).trans hh,h4⟩
structure MsgO (w:World) (lo:Nat) (m:MsgD) (q a u x o:Value):Prop where
 qs:OQus w lo q m.qs
 ans:ORec7 w lo a m.ans
 auth:ORec7 w lo u m.auth
 extra:ORec7 w lo x m.extra
 opts:OptsT w lo o m.ed.opts
theorem MsgO.by_ {w w':World} {lo:Nat} {m:MsgD} {q a u x o:Value} (h:MsgO w lo m q a u x o) (hk:∀k,lo≤k→k<w.heap.size→w'.heap[k]? =w.heap[k]?):MsgO w' lo m q a u x o:=
 ⟨h.qs.by_ hk,h.ans.by_ hk,h.auth.by_ hk,h.extra.by_ hk,h.opts.by_ fun k iJ=>hk k (h.opts.lt k iJ).1 (h.opts.lt k iJ).2⟩
theorem MsgO.lower {w:World} {lo lo':Nat} {m:MsgD} {q a u x o:Value} (h:MsgO w lo m q a u x o) (hl:lo'≤lo):MsgO w lo' m q a u x o:=by
 obtain⟨A,c,e,ho⟩:=h.qs
 exact⟨⟨A,c,e,ho.lower hl⟩,h.ans.lower hl,h.auth.lower hl,h.extra.lower hl,h.opts.lower hl⟩
theorem MsgO.ext {w w':World} {lo:Nat} {m:MsgD} {q a u x o:Value} (h:MsgO w lo m q a u x o) (hE:Ext w w'):MsgO w' lo m q a u x o:=h.by_ fun k _ h2=>hE.block k h2
structure MsgBd (m:MsgD):Prop where
 qok:∀q∈m.qs,q.name.length≤1048576
 aok:∀r∈m.ans,zfi r
 uok:∀r∈m.auth,zfi r
 xok:∀r∈m.extra,zfi r
 xl:m.extra.length≤1152921504606846976
theorem MsgO.msg7 {w:World} {lo:Nat} {m:MsgD} {q a u x o:Value} (h:MsgO w lo m q a u x o) (hb:MsgBd m):Msg7 w m q a u x o:=by
 obtain⟨A,c,e,ho⟩:=h.qs
 exact⟨⟨A,c,e,ho.cap.1,ho.cap.2,ho.rd.lower (Nat.zero_le _)⟩,h.ans.recs.lower (Nat.zero_le _),h.auth.recs.lower (Nat.zero_le _),h.extra.recs.lower (Nat.zero_le _),(h.opts.lower (Nat.zero_le _)).opts,hb.qok,hb.aok,hb.uok,hb.xok,hb.xl⟩
def zC4 (d:List UInt8) (w:World) (e:Ending) (w':World):Prop:=
 ((∃k,k≠0∧zct d=.error k∧e=zgb k)∨(∃m q a u x o,zct d=.ok m∧e=.returned (zfd m.hd q a u x m.he m.ed o)∧MsgO w' w.heap.size m q a u x o∧MsgBd m))∧Ext w w'
theorem zC0 (d:List UInt8) (w:World) (hg:Laid w) (hb:BitsAt w) (hd:d.length≤1048576):
 Calls Tryz.prog 36 #[S d] w (zC4 d w):=by
 obtain⟨X0,ar⟩:∃X0,X0=w.alloc (.cells #[.int .u16 0,.bool false,.int .u8 0,.bool false,.bool false,.bool false,.bool false,.bool false,.bool false,.bool false,.int .u8 0,.slice none 0 0,.slice none 0 0,.slice none 0 0,.slice none 0 0,.bool false,.int .u16 0,.int .u8 0,.int .u8 0,.int .u16 0,.slice none 0 0] 45):=⟨_,rfl⟩
 have aP:Ext w X0:=by rw[ar];exact(Z5 _).alloc _
 have r0:X0.heap[w.heap.size]? =some (.cells #[.int .u16 0,.bool false,.int .u8 0,.bool false,.bool false,.bool false,.bool false,.bool false,.bool false,.bool false,.int .u8 0,.slice none 0 0,.slice none 0 0,.slice none 0 0,.slice none 0 0,.bool false,.int .u16 0,.int .u8 0,.int .u8 0,.int .u16 0,.slice none 0 0] 45):=by rw[ar];exact heap_alloc_new _ _
 have mY:=Z7 (fun V=>zdb V)
 have vH:=Z7 (fun V=>zcs 4 (by omega) V)
 have yr:=Z7 (fun V=>zcs 5 (by omega) V)
 by_cases aT:65535<d.length
 ·have hF:zct d=.error 5:=by unfold zct;rw[if_pos aT]
  have Dq:(65535:Int)<(d.length:Int):=by omega
  have HF:=Z7 hF
  clear hF aT r0;go_enter Tryz.func36,Tryz.ntmps36;go_upto_region 1 with fail
  rw[←ar];clear ar;go_wp2_with fail;refine(yr.out _).mono ?_;rintro e w1 ⟨rfl,rfl⟩;go_wp2_with fail;exact⟨rfl,.inl ⟨5,by omega,HF.out,rfl⟩,aP⟩
 have Dq:¬((65535:Int)<(d.length:Int)):=by omega
 by_cases aR:d.length<12
 ·have hF:zct d=.error 4:=by unfold zct;rw[if_neg aT,if_pos aR]
  have HR:=Z7 (zt5 d X0 aR)
  have HF:=Z7 hF
  clear hF aT r0 aR;go_enter Tryz.func36,Tryz.ntmps36;go_upto_region 1 with fail
  rw[←ar];clear ar;go_wp2_with fail;refine HR.out.mono ?_;rintro e w1 ⟨rfl,ae⟩;go_wp2_with fail;refine(vH.out _).mono ?_;rintro e w2 ⟨rfl,rfl⟩;go_wp2_with fail;exact⟨rfl,.inl ⟨4,by omega,HF.out,rfl⟩,((aP.trans ae).alloc _).alloc _⟩
 have HR:=Z7 (zA5 d X0 (hg.ext aP) (hb.ext aP) (by omega) (by unfold maxLen;omega))
 obtain⟨af,ij⟩:∃af,af=za1 (n16 d 0) (n16 d 2):=⟨_,rfl⟩
 rw[←ij]at HR;have AJ:=Z7 ij
 clear ij;go_enter Tryz.func36,Tryz.ntmps36;go_upto_region 1 with fail
 rw[←ar];clear ar;go_wp2_with fail;refine HR.out.mono ?_;rintro e w1 ⟨rfl,ae⟩;clear HR;go_wp2_with fail;refine(mY.out _).mono ?_;rintro e w2 ⟨rfl,rfl⟩;obtain⟨X3,fH⟩:∃X3,X3=(w1.alloc (.cells #[.int .u16 af.id,.bool af.qr,.int .u8 af.op,.bool af.aa,.bool af.tc,.bool af.rd,.bool af.ra,.bool af.z,.bool af.ad,.bool af.cd,.int .u8 af.code] 30)).alloc (.cells #[.int .i64 (n16 d 4:Int),.int .i64 (n16 d 6:Int),.int .i64 (n16 d 8:Int),.int .i64 (n16 d 10:Int)] 130):=⟨_,rfl⟩
 obtain⟨hh,pJ⟩:∃hh,hh=w1.heap.size:=⟨_,rfl⟩
 have rc:X3.heap[hh+1]? =some (.cells #[.int .i64 (n16 d 4:Int),.int .i64 (n16 d 6:Int),.int .i64 (n16 d 8:Int),.int .i64 (n16 d 10:Int)] 130):=by rw[fH,pJ];exact heap_alloc2_new w1 _ _
 have rh:X3.heap[hh]? =some (.cells #[.int .u16 af.id,.bool af.qr,.int .u8 af.op,.bool af.aa,.bool af.tc,.bool af.rd,.bool af.ra,.bool af.z,.bool af.ad,.bool af.cd,.int .u8 af.code] 30):=by
  rw[fH,pJ];have h1:=heap_alloc_new w1 (.cells #[.int .u16 af.id,.bool af.qr,.int .u8 af.op,.bool af.aa,.bool af.tc,.bool af.rd,.bool af.ra,.bool af.z,.bool af.ad,.bool af.cd,.int .u8 af.code] 30)
  rw[heap_alloc_old _ _ (Z9 h1)];exact h1
 have cP:Ext w X3:=by rw[fH];exact((aP.trans ae).alloc _).alloc _
 have jm:Ext X0 X3:=by rw[fH];exact(ae.alloc _).alloc _
 go_upto_region 5 with fail
 rw[←fH,←pJ];clear fH pJ ae;go_cut [6] (fun s6 wx=>∃g cp,s6=.pointer (some ⟨g,0,none⟩)∧RdX wx g cp (zd5 d cp af (.slice none 0 0) (.slice none 0 0) (.slice none 0 0) (.slice none 0 0) none (.slice none 0 0)) d 0∧Ext X3 wx∧X3.heap.size≤g∧X3.heap.size≤cp)
 case first=>
  refine wp_region_noPanic ?_;refine za6 (S:=fun V=>V.heap[hh]? =some (.cells #[.int .u16 af.id,.bool af.qr,.int .u8 af.op,.bool af.aa,.bool af.tc,.bool af.rd,.bool af.ra,.bool af.z,.bool af.ad,.bool af.cd,.int .u8 af.code] 30)) (.take 0 (.take 1 (.take 3 (.take 4 (.run2 2 (.take 5 (.run 6 (.run 7 .done))) 6 (.run 2 (.take 5 (.run 7 .done)))))))) (by kernel_rfl) (by kernel_rfl) (fun _ _ _ _ _ h=>h) rh ?_
  repeat((with_reducible refine za7 ?_);first
   |(refine za4 (v:=?_) (by rfl) (by rfl) ?_ ?_;rotate_left;(focus(intro V hV;refine zce 30 (.tmp 3) ?_ hh 0 ?_ _ (zba hV) _ Tryz.underlying30 ?_ ?_;(focus rfl);(focus rfl);(focus rfl);(focus kernel_rfl)));(try simp only[ap]))
   |(refine za4 (v:=?_) (by rfl) (by rfl) ?_ ?_;rotate_left;(focus(intro V hV;(try dsimp only at hV);(go_simp<;>with_reducible rfl)));(try simp only[ap])))
  refine ziv ?_ ?_
  ·refine za5 (by rfl) (fun K hK=>?_)
   go_simp;refine(zot d _).mono ?_;rintro e w4 ⟨rfl,bv,aL,AK⟩;have aO:Ext X3 w4:=Ext.trans ((Z5 X3).drew) aL
   refine hK.out _ _ ((aO.block hh (Z9 rh)).trans rh) ?_;clear hK K
   (try simp only[ap])
   repeat((with_reducible refine za7 ?_);first
    |(refine za4 (v:=?_) (by rfl) (by rfl) ?_ ?_;rotate_left;(focus(intro V hV;(try dsimp only at hV);(go_simp<;>with_reducible rfl)));(try simp only[ap])))
   refine za5 (by rfl) (fun K hK=>?_)
   go_simp;have fM:(w4.alloc (.cells #[.string ⟨#[]⟩,.pointer none,.int .u16 0,.bool false,.int .u8 0,.bool false,.bool false,.bool false,.bool false,.bool false,.bool false,.bool false,.int .u8 0,.slice none 0 0,.slice none 0 0,.slice none 0 0,.slice none 0 0,.bool false,.int .u16 0,.int .u8 0,.int .u8 0,.int .u16 0,.slice none 0 0] 143)).heap[X3.heap.size+1]? =some (.cells #[.string ⟨#[]⟩,.pointer none,.int .u16 0,.bool false,.int .u8 0,.bool false,.bool false,.bool false,.bool false,.bool false,.bool false,.bool false,.int .u8 0,.slice none 0 0,.slice none 0 0,.slice none 0 0,.slice none 0 0,.bool false,.int .u16 0,.int .u8 0,.int .u8 0,.int .u16 0,.slice none 0 0] 143):=by
    have h1:=heap_alloc_new w4 (.cells #[.string ⟨#[]⟩,.pointer none,.int .u16 0,.bool false,.int .u8 0,.bool false,.bool false,.bool false,.bool false,.bool false,.bool false,.bool false,.int .u8 0,.slice none 0 0,.slice none 0 0,.slice none 0 0,.slice none 0 0,.bool false,.int .u16 0,.int .u8 0,.int .u8 0,.int .u16 0,.slice none 0 0] 143)
    rw[show w4.heap.size=X3.heap.size+1 from AK]at h1;exact h1
   have sW:(w4.alloc (.cells #[.string ⟨#[]⟩,.pointer none,.int .u16 0,.bool false,.int .u8 0,.bool false,.bool false,.bool false,.bool false,.bool false,.bool false,.bool false,.int .u8 0,.slice none 0 0,.slice none 0 0,.slice none 0 0,.slice none 0 0,.bool false,.int .u16 0,.int .u8 0,.int .u8 0,.int .u16 0,.slice none 0 0] 143)).heap[X3.heap.size]? =some (.cells (zbn d 0) 226):=(heap_alloc_old _ _ (Z9 bv)).trans bv
   have am:Ext X3 (w4.alloc (.cells #[.string ⟨#[]⟩,.pointer none,.int .u16 0,.bool false,.int .u8 0,.bool false,.bool false,.bool false,.bool false,.bool false,.bool false,.bool false,.int .u8 0,.slice none 0 0,.slice none 0 0,.slice none 0 0,.slice none 0 0,.bool false,.int .u16 0,.int .u8 0,.int .u8 0,.int .u16 0,.slice none 0 0] 143)):=aO.alloc _
   obtain⟨W5,gJ⟩:∃W5,W5=w4.alloc (.cells #[.string ⟨#[]⟩,.pointer none,.int .u16 0,.bool false,.int .u8 0,.bool false,.bool false,.bool false,.bool false,.bool false,.bool false,.bool false,.int .u8 0,.slice none 0 0,.slice none 0 0,.slice none 0 0,.slice none 0 0,.bool false,.int .u16 0,.int .u8 0,.int .u8 0,.int .u16 0,.slice none 0 0] 143):=⟨_,rfl⟩
   rw[←gJ]at fM sW am ⊢;clear gJ;refine hK.out _ _ ((am.block hh (Z9 rh)).trans rh) ?_;clear hK K
   (try simp only[ap])
   refine za5 (by rfl) (fun K hK=>?_)
   rw[if_pos (by rfl)]
   refine wp_store_row 143 (.tmp 6) (.tmp 25) rfl (X3.heap.size+1) (zd5 d X3.heap.size af (.slice none 0 0) (.slice none 0 0) (.slice none 0 0) (.slice none 0 0) none (.slice none 0 0)) rfl rfl 143 _ fM (by kernel_rfl) rfl (by kernel_rfl) ?_
   have g5:=zak W5 (X3.heap.size+1) (zd5 d X3.heap.size af (.slice none 0 0) (.slice none 0 0) (.slice none 0 0) (.slice none 0 0) none (.slice none 0 0))
   have aw:=Below.grown am g5 am.size (fun k hk=>by injection hk with hk;omega)
   refine hK.out _ _ ((aw.block hh (Z9 rh)).trans rh) ?_;clear hK K
   (try simp only[ap])
   refine zag ?_;refine NoPanic.normal ?_;go_wp2_with fail;go_meet;exact⟨X3.heap.size+1,X3.heap.size,rfl,⟨setRow_heap W5 _ _ _ _ _ fM,rfl,rfl,(g5.block _ (Z9 sW) (by simp)).trans sW,by omega,Nat.zero_le _⟩,aw,by omega,by omega⟩
  ·refine za5 (by rfl) (fun K hK=>?_)
   go_simp;have fM:(X3.alloc (.cells #[.string ⟨#[]⟩,.pointer none,.int .u16 0,.bool false,.int .u8 0,.bool false,.bool false,.bool false,.bool false,.bool false,.bool false,.bool false,.int .u8 0,.slice none 0 0,.slice none 0 0,.slice none 0 0,.slice none 0 0,.bool false,.int .u16 0,.int .u8 0,.int .u8 0,.int .u16 0,.slice none 0 0] 143)).drew.heap[X3.heap.size]? =some (.cells #[.string ⟨#[]⟩,.pointer none,.int .u16 0,.bool false,.int .u8 0,.bool false,.bool false,.bool false,.bool false,.bool false,.bool false,.bool false,.int .u8 0,.slice none 0 0,.slice none 0 0,.slice none 0 0,.slice none 0 0,.bool false,.int .u16 0,.int .u8 0,.int .u8 0,.int .u16 0,.slice none 0 0] 143):=heap_alloc_new X3 (.cells #[.string ⟨#[]⟩,.pointer none,.int .u16 0,.bool false,.int .u8 0,.bool false,.bool false,.bool false,.bool false,.bool false,.bool false,.bool false,.int .u8 0,.slice none 0 0,.slice none 0 0,.slice none 0 0,.slice none 0 0,.bool false,.int .u16 0,.int .u8 0,.int .u8 0,.int .u16 0,.slice none 0 0] 143)
   have aL:Ext X3 (X3.alloc (.cells #[.string ⟨#[]⟩,.pointer none,.int .u16 0,.bool false,.int .u8 0,.bool false,.bool false,.bool false,.bool false,.bool false,.bool false,.bool false,.int .u8 0,.slice none 0 0,.slice none 0 0,.slice none 0 0,.slice none 0 0,.bool false,.int .u16 0,.int .u8 0,.int .u8 0,.int .u16 0,.slice none 0 0] 143)).drew:=((Z5 X3).alloc _).drew
   have gg:(X3.alloc (.cells #[.string ⟨#[]⟩,.pointer none,.int .u16 0,.bool false,.int .u8 0,.bool false,.bool false,.bool false,.bool false,.bool false,.bool false,.bool false,.int .u8 0,.slice none 0 0,.slice none 0 0,.slice none 0 0,.slice none 0 0,.bool false,.int .u16 0,.int .u8 0,.int .u8 0,.int .u16 0,.slice none 0 0] 143)).drew.heap.size=X3.heap.size+1:=by simp
   obtain⟨W4,bE⟩:∃W4,W4=(X3.alloc (.cells #[.string ⟨#[]⟩,.pointer none,.int .u16 0,.bool false,.int .u8 0,.bool false,.bool false,.bool false,.bool false,.bool false,.bool false,.bool false,.int .u8 0,.slice none 0 0,.slice none 0 0,.slice none 0 0,.slice none 0 0,.bool false,.int .u16 0,.int .u8 0,.int .u8 0,.int .u16 0,.slice none 0 0] 143)).drew:=⟨_,rfl⟩
   rw[←bE]at fM aL gg ⊢;clear bE;refine hK.out _ _ ((aL.block hh (Z9 rh)).trans rh) ?_;clear hK K
   (try simp only[ap])
   refine za5 (by rfl) (fun K hK=>?_)
   go_simp;refine(zot d _).mono ?_;rintro e w5 ⟨rfl,dK,vK,uk⟩;rw[gg]at dK;have am:Ext X3 w5:=aL.trans vK
   have yy:=Z8 vK fM
   refine hK.out _ _ ((am.block hh (Z9 rh)).trans rh) ?_;clear hK K
   (try simp only[ap])
   repeat((with_reducible refine za7 ?_);first
    |(refine za4 (v:=?_) (by rfl) (by rfl) ?_ ?_;rotate_left;(focus(intro V hV;(try dsimp only at hV);(go_simp<;>with_reducible rfl)));(try simp only[ap])))
   refine za5 (by rfl) (fun K hK=>?_)
   rw[if_pos (by rfl)]
   refine wp_store_row 143 (.tmp 6) (.tmp 25) rfl X3.heap.size (zd5 d (X3.heap.size+1) af (.slice none 0 0) (.slice none 0 0) (.slice none 0 0) (.slice none 0 0) none (.slice none 0 0)) rfl (by first|rfl|(rw[gg];rfl)|(simp only[gg];rfl)) 143 _ yy (by kernel_rfl) rfl (by kernel_rfl) ?_
   have g5:=zak w5 X3.heap.size (zd5 d (X3.heap.size+1) af (.slice none 0 0) (.slice none 0 0) (.slice none 0 0) (.slice none 0 0) none (.slice none 0 0))
   have aw:=Below.grown am g5 am.size (fun k hk=>by injection hk with hk;omega)
   refine hK.out _ _ ((aw.block hh (Z9 rh)).trans rh) ?_;clear hK K
   (try simp only[ap])
   refine zag ?_;refine NoPanic.normal ?_;go_wp2_with fail;go_meet;exact⟨X3.heap.size,X3.heap.size+1,rfl,⟨setRow_heap w5 _ _ _ _ _ yy,rfl,rfl,(g5.block _ (Z9 dK) (by simp)).trans dK,by omega,Nat.zero_le _⟩,aw,by omega,by omega⟩
 case rest=>
  obtain⟨g,cp,rfl,ay,ao,dQ,ei⟩:=hcut
  obtain⟨Y,rfl⟩:∃Y:World,Y=wc:=⟨_,rfl⟩
  have eY:=ay.lt
  have cS:3≠g:=by have:=hg.lt;have:=cP.size;omega
  have a9:3≠cp:=by have:=hg.lt;have:=cP.size;omega
  have ak:X3.heap.size≤cp:=ei
  have jk:X3.heap.size≤g:=dQ
  have tB:X3.heap.size≤Y.heap.size:=ao.size
  have ol:Laid Y:=(hg.ext cP).ext ao
  have F7:=(Z9 rc)
  have rcY:=(ao.block _ F7).trans rc
  have r0w:=(aP.trans (Z5 X0)).size
  have r0Y:Y.heap[w.heap.size]? =some (.cells #[.int .u16 0,.bool false,.int .u8 0,.bool false,.bool false,.bool false,.bool false,.bool false,.bool false,.bool false,.int .u8 0,.slice none 0 0,.slice none 0 0,.slice none 0 0,.slice none 0 0,.bool false,.int .u16 0,.int .u8 0,.int .u8 0,.int .u16 0,.slice none 0 0] 45):=Z8 (jm.trans ao) r0
  have F8:w.heap.size<X3.heap.size:=Z1 (Z9 r0) jm.size
  have c1:=ay.c1
  have HT:=Z7 (zq2 12 ay.cur (by unfold maxLen;omega) (by omega))
  have F9:=Z7 ay
  clear ay r0 rh jm;go_wp2_with fail;refine HT.out.mono ?_;rintro e w5 ⟨rfl,kU⟩;have G5:=F9.out.st kU ak (by omega)
  rw[Nat.zero_add]at G5;clear HT kU c1;have oo:=Z7 (fun V (hV:KeptB g cp Y V)=>hV.row rcY (by omega) (by omega))
  have k0:=za0 (j:=0) (oo.out _ G5.kept) rfl
  go_wp2_with fail;refine(mY.out _).mono ?_;rintro e w6 ⟨rfl,rfl⟩;obtain⟨R,hR⟩:∃R,R=zbt d (n16 d 4) 12:=⟨_,rfl⟩
  have HR:=Z7 hR
  obtain⟨i0,aH,aF,aC,ax⟩:=info_parts zwg
  have HI:=Z7 (show QInv Y X3.heap.size g cp af d R (n16 d 4) 0 12 [] none 0 w5 from⟨Nat.zero_le _,by simp,G5,Own.nil _ _ _ _,by rw[hR,zr5];rfl⟩)
  have Dr:=zdl d 4
  have Ga:=zdl d 6
  have AL:=zdl d 8
  have AM:=zdl d 10
  clear hR G5;go_wp2_with fail;clear k0
  go_loopw [7,36] (fun _ s36 wr=>∃(k p:Nat) (l:List QD) (A:Option Addr) (c:Nat),s36=.int .i64 k∧QInv Y X3.heap.size g cp af d R (n16 d 4) k p l A c wr) (fun _ s36 _=>n16 d 4 - (intOf s36).toNat)
  case atStart=>exact⟨0,12,[],none,0,rfl,HI.out⟩
  case round=>
   obtain⟨k,p0,l,A,c,rfl,hI⟩:=hrel
   obtain⟨wo,rfl⟩:∃wo:World,wo=wr:=⟨_,rfl⟩
   clear HI;have vG:=hI.kn
   have fZ:=hI.ll
   by_cases ab:k<n16 d 4
   ·have cz:(k:Int)<(n16 d 4:Int):=by omega
    have iO:n16 d 4 - k=(n16 d 4 - (k+1))+1:=by omega
    have cJ:=Z7 hI.eq
    rw[iO]at cJ;have cI:=hI.go.kept.1
    have gG:g<wo.heap.size∧cp<wo.heap.size:=⟨Z1 eY.1 cI,Z1 eY.2 cI⟩
    have G0:GoX X3.heap.size g cp (zd5 d cp af (.slice A l.length c) (.slice none 0 0) (.slice none 0 0) (.slice none 0 0) none (.slice none 0 0)) d p0 wo wo:=GoX.refl hI.go.rd
    have bZ:=Z7 hI
    have gq:=hI.go.ext0 ol cS a9
    have jl:X3.heap.size≤wo.heap.size:=Z2 tB cI
    clear hI iO;rcases hN:zbj d p0 with x|⟨nm,p1⟩
    ·have HF:=Z7 (zif aT aR (zib (HR.out.symm.trans (cJ.out.trans (zmw l (zB1 hN))))))
     have k9:=(zim hN).1
     have HC:=Z7 (znh G0.rd ak gq (by omega) hN)
     clear hN;go_wp2_with fail;refine HC.out.mono ?_;rintro e w2 ⟨rfl,hB⟩;go_wp2_with fail;exact⟨rfl,.inl ⟨x,k9,HF.out,rfl⟩,cP.then ((ao.mono (Z4 _)).trans (bZ.out.go.below.trans hB)) cP.size⟩
    have HC:=Z7 (ztz G0.rd ak gq (by omega) hN)
    have HN:=Z7 hN
    clear hN;go_wp2_with fail;refine HC.out.mono ?_;rintro e w2 ⟨rfl,G2⟩;go_upto_region 11 with fail
    obtain⟨b,hb⟩:∃b,b=w2.heap.size:=⟨_,rfl⟩
    obtain⟨W3,bK⟩:∃W3,W3=w2.alloc (.cells #[S nm,.int .u16 0,.int .u16 0] 32):=⟨_,rfl⟩
    have b3:W3.heap[b]? =some (.cells #[S nm,.int .u16 0,.int .u16 0] 32):=by rw[bK,hb];exact heap_alloc_new _ _
    have G3:GoX X3.heap.size g cp (zd5 d cp af (.slice A l.length c) (.slice none 0 0) (.slice none 0 0) (.slice none 0 0) none (.slice none 0 0)) d p1 wo W3:=by rw[bK];exact G2.ext ((Z5 _).alloc _) jl
    have pI:wo.heap.size≤b:=by rw[hb];exact G2.kept.1
    have jy:b≠g:=by omega
    have la:b≠cp:=by omega
    have L3:=G3.ext0 gq cS a9
    rw[←bK,←hb];clear bK hb G2 HC G0;rcases h3:zal 2 d p1 with x|⟨ty,p2⟩
    ·have HF:=Z7 (zif aT aR (zib (HR.out.symm.trans (cJ.out.trans (zmw l (zB2 HN.out h3))))))
     have HC:=Z7 (zgj G3.rd ak L3 (by omega) h3)
     obtain⟨rfl,_⟩:=zcv h3
     clear h3;go_wp2_with fail;refine HC.out.mono ?_;rintro e w9 ⟨rfl,hB⟩;go_wp2_with fail;exact⟨rfl,.inl ⟨4,by omega,HF.out,rfl⟩,cP.then ((ao.mono (Z4 _)).trans (bZ.out.go.below.trans (G3.below.trans hB))) cP.size⟩
    have HC:=Z7 (zjz G3.rd ak (by omega) h3)
    have vb3:=zck h3
    have H3:=Z7 h3
    clear h3;go_wp2_with fail;refine HC.out.mono ?_;rintro e w4 ⟨rfl,G'⟩;have b'3:=G'.kept.row b3 jy la
    have G'3:=G'.more G3
    clear G' HC;have cc:=za0 (j:=1) b'3 rfl
    have fc:=za3 (j:=1) b'3
    go_upto_region 12 with fail
    have b4:(w4.setCell ⟨b,1,none⟩ (.int .u16 (ty:Int))).heap[b]? =some (.cells #[S nm,.int .u16 (ty:Int),.int .u16 0] 32):=za2 b'3 1 _
    have G4:=G'3.setNew gG ak pI 1 (.int .u16 (ty:Int))
    clear cc fc;obtain⟨W4,hW⟩:∃W4,W4=w4.setCell ⟨b,1,none⟩ (.int .u16 (ty:Int)):=⟨_,rfl⟩
    rw[←hW]at b4 G4 ⊢;clear hW G'3 b'3 G3 b3;have L4:=G4.ext0 gq cS a9
    rcases h4:zal 2 d p2 with x|⟨cl,p3⟩
    ·have HF:=Z7 (zif aT aR (zib (HR.out.symm.trans (cJ.out.trans (zmw l (zB3 HN.out H3.out h4))))))
     have HC:=Z7 (zgj G4.rd ak L4 (by omega) h4)
     obtain⟨rfl,_⟩:=zcv h4
     clear h4;go_wp2_with fail;refine HC.out.mono ?_;rintro e w9 ⟨rfl,hB⟩;go_wp2_with fail;exact⟨rfl,.inl ⟨4,by omega,HF.out,rfl⟩,cP.then ((ao.mono (Z4 _)).trans (bZ.out.go.below.trans (G4.below.trans hB))) cP.size⟩
    have HC:=Z7 (zjz G4.rd ak (by omega) h4)
    have vb4:=zck h4
    have H4:=Z7 h4
    clear h4;go_wp2_with fail;refine HC.out.mono ?_;rintro e w5 ⟨rfl,G'⟩;have b'4:=G'.kept.row b4 jy la
    have G'4:=G'.more G4
    clear G' HC;have cc:=za0 (j:=2) b'4 rfl
    have fc:=za3 (j:=2) b'4
    go_upto_region 13 with fail
    have b5:(w5.setCell ⟨b,2,none⟩ (.int .u16 (cl:Int))).heap[b]? =some (.cells #[S nm,.int .u16 (ty:Int),.int .u16 (cl:Int)] 32):=za2 b'4 2 _
    have G5:=G'4.setNew gG ak pI 2 (.int .u16 (cl:Int))
    clear cc fc;obtain⟨W5,hW⟩:∃W5,W5=w5.setCell ⟨b,2,none⟩ (.int .u16 (cl:Int)):=⟨_,rfl⟩
    rw[←hW]at b5 G5 ⊢;clear hW G'4 b'4 G4 b4;have L5:=G5.ext0 gq cS a9
    have HF:=Z7 (cJ.out.trans (ztw l (zB4 HN.out H3.out H4.out)))
    have y0:=za0 (j:=0) b5 rfl
    have y1:=za0 (j:=1) b5 rfl
    have y2:=za0 (j:=2) b5 rfl
    have z13:=za0 (j:=13) G5.rd.box rfl
    have ag:=bZ.out.own.keptB G5.kept eY.1 eY.2
    have kY:Y.heap.size≤W5.heap.size:=Z2 cI G5.kept.1
    have uC:=G5.rd.lt
    go_wp2_with(first
     |(at_builtin
       refine zad _ rfl (.tmp 46) (.tmp 48) _ rfl Y.heap.size 32 i0 _ 3 24 Tryz.underlying39 aH aF aC ax rfl (by omega) A l.length c (l.flatMap zcq) rfl (ag.ext ((Z5 _).alloc _)) 0 _ 1 1 (zcq ⟨nm,(ty:Int),(cl:Int)⟩) rfl (zaw _ _ (by simp) _ _ 1 3 rfl) (zws _) (by omega) (by omega) (by simp;omega) ?_
       intro A6 c6 w13 aQ dG dT dH;have G13:=((G5.ext ((Z5 W5).alloc (.cells (zcq ⟨nm,(ty:Int),(cl:Int)⟩).toArray 32)) jl).more bZ.out.go).grown eY (ag.ext ((Z5 _).alloc _)) dG dT tB (Z4 _)
       have j13:=za0 (j:=13) G13.rd.box rfl
       have f13:=za3 (j:=13) G13.rd.box)
     |fail)
    have G14:=G13.setg (j:=13) (by omega) (by simp) (.slice A6 (l.length+1) c6) jk
    go_roundw
    case rel=>
     refine⟨k+1,p3,l++[⟨nm,(ty:Int),(cl:Int)⟩],A6,c6,by go_num,⟨by omega,by simp;omega,?_,?_,HF.out⟩⟩
     ·rw[Z6];exact G14
     ·have:=aQ.set_other (p:=⟨g,13,none⟩) eY.1 (.slice A6 (l.length+1) c6)
      simpa using this
    case measure=>simp[intOf];omega
   ·obtain rfl:k=n16 d 4:=by omega
    have HQ:=Z7 (show zbt d (n16 d 4) 12=.ok (l,p0)by
     have:=hI.eq
     rw[Nat.sub_self]at this;rw[←HR.out,this];simp[zbt,zfr])
    have G6:=hI.go
    have ik:OQus wo Y.heap.size (.slice A l.length c) l:=⟨A,c,rfl,hI.own⟩
    obtain⟨q,hq⟩:∃q,q=Value.slice A l.length c:=⟨_,rfl⟩
    clear hI;have k1:=za0 (j:=1) (oo.out _ G6.kept) rfl
    have il:=Z7 (zjh wo X3.heap.size Y.heap.size g cp p0 (n16 d 6) d af (.slice A l.length c) (.slice none 0 0) (.slice none 0 0) (.slice none 0 0) (.slice none 0 0) none false G6.rd ak jk (G6.ext0 ol cS a9) cS a9 (by omega) (by omega) (OptsT.nil _ _) eY.1 eY.2 G6.kept.1)
    have AN:=G6.kept.1
    go_wp2_with fail;refine il.out.mono ?_;rintro e v7 (⟨x,k9,hRx,rfl,hB⟩|⟨l1,e1,q1,o1,va1,dh,rfl,G',fy,eL⟩)
    ·have HF:=Z7 (zif aT aR (zsl HQ.out hRx))
     go_wp2_with fail;exact⟨rfl,.inl ⟨x,k9,HF.out,rfl⟩,cP.then ((ao.mono (Z4 _)).trans (G6.below.trans hB)) cP.size⟩
    have yz:=Z7 dh
    have eL:=eL.lower AN
    obtain⟨aA1,ac1,rfl,im⟩:=eL
    have eL:ORec7 v7 Y.heap.size (.slice aA1 l1.length ac1) l1:=⟨aA1,ac1,rfl,im⟩
    have G'':=G'.more G6
    have bw:∀k,Y.heap.size≤k→k<wo.heap.size→v7.heap[k]? =wo.heap[k]? :=fun k h1 h2=>G'.kept.2 k h2 (by omega) (by omega)
    have ik:=ik.by_ bw
    have zc:=za0 (j:=14) G''.rd.box rfl
    have fc:=za3 (j:=14) G''.rd.box
    clear dh bw G' im k1 il;go_upto_region 16 with fail
    have G7:GoX X3.heap.size g cp (zd5 d cp af (.slice A l.length c) (.slice aA1 l1.length ac1) (.slice none 0 0) (.slice none 0 0) e1 o1) d q1 Y (v7.setCell ⟨g,14,none⟩ (.slice aA1 l1.length ac1)):=G''.setg (j:=14) (by omega) (by simp) (.slice aA1 l1.length ac1) jk
    have bw:∀k,Y.heap.size≤k→k<v7.heap.size→(v7.setCell ⟨g,14,none⟩ (.slice aA1 l1.length ac1)).heap[k]? =v7.heap[k]? :=fun k h1 h2=>Below.heap_setCell _ _ _ k (by dsimp only;omega)
    have kw:=fy.by_ fun k hk=>bw k (fy.lt k hk).1 (fy.lt k hk).2
    have dZ:=eL.by_ bw
    have ik:=ik.by_ bw
    obtain⟨V7,hV⟩:∃V7,V7=v7.setCell ⟨g,14,none⟩ (.slice aA1 l1.length ac1):=⟨_,rfl⟩
    rw[←hV]at G7 kw dZ ik ⊢;clear hV bw fy eL G'' zc fc G6;have k2:=za0 (j:=2) (oo.out _ G7.kept) rfl
    have il:=Z7 (zjh V7 X3.heap.size Y.heap.size g cp q1 (n16 d 8) d af (.slice A l.length c) (.slice aA1 l1.length ac1) (.slice none 0 0) (.slice none 0 0) o1 e1 false G7.rd ak jk (G7.ext0 ol cS a9) cS a9 (by omega) (by omega) (kw) eY.1 eY.2 G7.kept.1)
    have AO:=G7.kept.1
    go_wp2_with fail;refine il.out.mono ?_;rintro e v8 (⟨x,k9,hRx,rfl,hB⟩|⟨l2,e2,q2,o2,va2,yq,rfl,G',fy,eL⟩)
    ·have HF:=Z7 (zif aT aR (zsm HQ.out yz.out hRx))
     go_wp2_with fail;exact⟨rfl,.inl ⟨x,k9,HF.out,rfl⟩,cP.then ((ao.mono (Z4 _)).trans (G7.below.trans hB)) cP.size⟩
    have ti:=Z7 yq
    have eL:=eL.lower AO
    obtain⟨aA2,ac2,rfl,im⟩:=eL
    have eL:ORec7 v8 Y.heap.size (.slice aA2 l2.length ac2) l2:=⟨aA2,ac2,rfl,im⟩
    have G'':=G'.more G7
    have bw:∀k,Y.heap.size≤k→k<V7.heap.size→v8.heap[k]? =V7.heap[k]? :=fun k h1 h2=>G'.kept.2 k h2 (by omega) (by omega)
    have ik:=ik.by_ bw
    have dZ:=dZ.by_ bw
    have zc:=za0 (j:=15) G''.rd.box rfl
    have fc:=za3 (j:=15) G''.rd.box
    clear yq bw G' im k2 il;go_upto_region 17 with fail
    have G8:GoX X3.heap.size g cp (zd5 d cp af (.slice A l.length c) (.slice aA1 l1.length ac1) (.slice aA2 l2.length ac2) (.slice none 0 0) e2 o2) d q2 Y (v8.setCell ⟨g,15,none⟩ (.slice aA2 l2.length ac2)):=G''.setg (j:=15) (by omega) (by simp) (.slice aA2 l2.length ac2) jk
    have bw:∀k,Y.heap.size≤k→k<v8.heap.size→(v8.setCell ⟨g,15,none⟩ (.slice aA2 l2.length ac2)).heap[k]? =v8.heap[k]? :=fun k h1 h2=>Below.heap_setCell _ _ _ k (by dsimp only;omega)
    have kx:=fy.by_ fun k hk=>bw k (fy.lt k hk).1 (fy.lt k hk).2
    have io:=eL.by_ bw
    have ik:=ik.by_ bw
    have dZ:=dZ.by_ bw
    obtain⟨V8,hV⟩:∃V8,V8=v8.setCell ⟨g,15,none⟩ (.slice aA2 l2.length ac2):=⟨_,rfl⟩
    rw[←hV]at G8 kx io ik dZ ⊢;clear hV bw fy eL G'' zc fc G7;have k3:=za0 (j:=3) (oo.out _ G8.kept) rfl
    have il:=Z7 (zjh V8 X3.heap.size Y.heap.size g cp q2 (n16 d 10) d af (.slice A l.length c) (.slice aA1 l1.length ac1) (.slice aA2 l2.length ac2) (.slice none 0 0) o2 e2 true G8.rd ak jk (G8.ext0 ol cS a9) cS a9 (by omega) (by omega) (kx) eY.1 eY.2 G8.kept.1)
    have vL:=G8.kept.1
    go_wp2_with fail;refine il.out.mono ?_;rintro e v9 (⟨x,k9,hRx,rfl,hB⟩|⟨l3,e3,q3,o3,va3,hR3,rfl,G',fy,eL⟩)
    ·have HF:=Z7 (zif aT aR (zsn HQ.out yz.out ti.out hRx))
     go_wp2_with fail;exact⟨rfl,.inl ⟨x,k9,HF.out,rfl⟩,cP.then ((ao.mono (Z4 _)).trans (G8.below.trans hB)) cP.size⟩
    have Ds:=Z7 hR3
    have eL:=eL.lower vL
    obtain⟨aA3,ac3,rfl,im⟩:=eL
    have eL:ORec7 v9 Y.heap.size (.slice aA3 l3.length ac3) l3:=⟨aA3,ac3,rfl,im⟩
    have G'':=G'.more G8
    have bw:∀k,Y.heap.size≤k→k<V8.heap.size→v9.heap[k]? =V8.heap[k]? :=fun k h1 h2=>G'.kept.2 k h2 (by omega) (by omega)
    have ik:=ik.by_ bw
    have dZ:=dZ.by_ bw
    have io:=io.by_ bw
    have zc:=za0 (j:=16) G''.rd.box rfl
    have fc:=za3 (j:=16) G''.rd.box
    clear hR3 bw G' im k3 il;go_upto_region 18 with fail
    have G9:GoX X3.heap.size g cp (zd5 d cp af (.slice A l.length c) (.slice aA1 l1.length ac1) (.slice aA2 l2.length ac2) (.slice aA3 l3.length ac3) e3 o3) d q3 Y (v9.setCell ⟨g,16,none⟩ (.slice aA3 l3.length ac3)):=G''.setg (j:=16) (by omega) (by simp) (.slice aA3 l3.length ac3) jk
    have bw:∀k,Y.heap.size≤k→k<v9.heap.size→(v9.setCell ⟨g,16,none⟩ (.slice aA3 l3.length ac3)).heap[k]? =v9.heap[k]? :=fun k h1 h2=>Below.heap_setCell _ _ _ k (by dsimp only;omega)
    have oq:=fy.by_ fun k hk=>bw k (fy.lt k hk).1 (fy.lt k hk).2
    have ry:=eL.by_ bw
    have ik:=ik.by_ bw
    have dZ:=dZ.by_ bw
    have io:=io.by_ bw
    obtain⟨V9,hV⟩:∃V9,V9=v9.setCell ⟨g,16,none⟩ (.slice aA3 l3.length ac3):=⟨_,rfl⟩
    rw[←hV]at G9 oq ry ik dZ io ⊢;clear hV bw fy eL G'' zc fc G8;have vM:=oq
    obtain⟨oA3,oc3,rfl,_⟩:=vM
    have hL:=Z7 (zw9 G9.rd.cur (by unfold maxLen;omega) G9.rd.pd)
    have c1:=G9.rd.c1
    have HB:=Z7 (zso HQ.out yz.out ti.out Ds.out)
    rw[←AJ.out]at HB;have gQ:=G9.rd.pd
    have kz:Ext w V9:=cP.then ((ao.mono (Z4 _)).trans G9.below) cP.size
    by_cases rA:q3<d.length
    ·have HF:=Z7 ((zq3 aT aR HB.out).trans (if_pos rA))
     have nW:(0:Int)<((d.length - q3:Nat):Int):=by omega
     go_wp2_with fail;refine hL.out.mono ?_;rintro e v10 ⟨rfl,bg⟩;go_wp2_with fail;refine(yr.out _).mono ?_;rintro e v11 ⟨rfl,rfl⟩;go_wp2_with fail;exact⟨rfl,.inl ⟨5,by omega,HF.out,rfl⟩,kz.trans bg⟩
    have HF:=Z7 ((zq3 aT aR HB.out).trans (if_neg rA))
    have aF:((d.length - q3:Nat):Int)=0:=by omega
    rw[aF]at hL;clear aF rA;have gt:MsgO V9 Y.heap.size ⟨af,l,l1,l2,l3,e3.isSome,e3.getD za8⟩ (.slice A l.length c) (.slice aA1 l1.length ac1) (.slice aA2 l2.length ac2) (.slice aA3 l3.length ac3) (.slice oA3 (e3.getD za8).opts.length oc3):=⟨ik,dZ,io,ry,oq⟩
    have dN:MsgBd ⟨af,l,l1,l2,l3,e3.isSome,e3.getD za8⟩:=by
     have b1:=zqe HQ.out
     have b2:=zfz (by omega) yz.out
     have b3:=zfz (by omega) ti.out
     have b4:=zfz (by omega) Ds.out
     exact⟨fun q hq=>Z2 (b1 q hq) (by omega),fun r hr=>⟨Z2 (b2.2 r hr).1 (by omega),Z2 (b2.2 r hr).2 (by omega)⟩,fun r hr=>⟨Z2 (b3.2 r hr).1 (by omega),Z2 (b3.2 r hr).2 (by omega)⟩,fun r hr=>⟨Z2 (b4.2 r hr).1 (by omega),Z2 (b4.2 r hr).2 (by omega)⟩,Z2 b4.1 (by omega)⟩
    have Dt:=Z7 (znz HB.out).1
    obtain⟨m,hm⟩:∃m:MsgD,m=⟨af,l,l1,l2,l3,e3.isSome,e3.getD za8⟩:=⟨_,rfl⟩
    rw[←hm]at gt dN Dt HF;have HW:=Z7 (fun V (hV:Ext V9 V)=>zps m (.slice A l.length c) (.slice aA1 l1.length ac1) (.slice aA2 l2.length ac2) (.slice aA3 l3.length ac3) (.slice oA3 (e3.getD za8).opts.length oc3) V ((hg.ext kz).ext hV) ((hb.ext kz).ext hV) Dt.out ((gt.msg7 dN).ext hV))
    have AP:zfd m.hd (.slice A l.length c) (.slice aA1 l1.length ac1) (.slice aA2 l2.length ac2) (.slice aA3 l3.length ac3) m.he m.ed (.slice oA3 (e3.getD za8).opts.length oc3)=.agg [.int .u16 af.id,.bool af.qr,.int .u8 af.op,.bool af.aa,.bool af.tc,.bool af.rd,.bool af.ra,.bool af.z,.bool af.ad,.bool af.cd,.int .u8 af.code,(.slice A l.length c),(.slice aA1 l1.length ac1),(.slice aA2 l2.length ac2),(.slice aA3 l3.length ac3),.bool e3.isSome,.int .u16 (e3.getD za8).size,.int .u8 (e3.getD za8).ext,.int .u8 (e3.getD za8).ver,.int .u16 (e3.getD za8).flags,(.slice oA3 (e3.getD za8).opts.length oc3)].toArray:=by rw[hm]
    rw[AP]at HW;have Gb:=Z7 AP
    have Du:=Z7 hm
    clear hm AP ik dZ io ry oq kx kw hq;have r0V:=G9.kept.row r0Y (by omega) (by omega)
    have Dv:=Z7 (fun V (hV:Ext V9 V)=>(G9.rd.ext hV).box)
    have Gc:=G9.kept.1
    go_wp2_with fail;refine hL.out.mono ?_;rintro e v10 ⟨rfl,bg⟩;have b10:=Dv.out _ bg
    go_wp2_with(first
     |(refine za9 (by rfl) 45 (.tmp 73) rfl g 2 rfl [.int .u16 af.id,.bool af.qr,.int .u8 af.op,.bool af.aa,.bool af.tc,.bool af.rd,.bool af.ra,.bool af.z,.bool af.ad,.bool af.cd,.int .u8 af.code,(.slice A l.length c),(.slice aA1 l1.length ac1),(.slice aA2 l2.length ac2),(.slice aA3 l3.length ac3),.bool e3.isSome,.int .u16 (e3.getD za8).size,.int .u8 (e3.getD za8).ext,.int .u8 (e3.getD za8).ver,.int .u16 (e3.getD za8).flags,(.slice oA3 (e3.getD za8).opts.length oc3)] (zcx b10 2 21) _ Tryz.underlying45 rfl (by kernel_rfl) ?_)
     |fail)
    refine(HW.out _ bg).mono ?_;rintro e v11 ⟨⟨jM,A9,c9,rfl,rB⟩|⟨jM,rfl⟩,gu⟩;rotate_left
    ·have AQ:=Z7 (HF.out.trans (if_neg jM))
     have AR:=Z7 jM
     clear jM;go_wp2_with fail;exact⟨rfl,.inl ⟨zau m,AR.out,AQ.out,rfl⟩,kz.trans (bg.trans gu)⟩
    have AQ:=Z7 (HF.out.trans (if_pos jM))
    clear jM rB;have ip:Ext V9 v11:=bg.trans gu
    have b11:=Dv.out _ ip
    have r011:=Z8 ip r0V
    go_upto_region 21 with fail
    refine wp_region_lit ?_
    repeat(first
     |(refine za9 (by rfl) 45 (.tmp 76) rfl g 2 rfl [.int .u16 af.id,.bool af.qr,.int .u8 af.op,.bool af.aa,.bool af.tc,.bool af.rd,.bool af.ra,.bool af.z,.bool af.ad,.bool af.cd,.int .u8 af.code,(.slice A l.length c),(.slice aA1 l1.length ac1),(.slice aA2 l2.length ac2),(.slice aA3 l3.length ac3),.bool e3.isSome,.int .u16 (e3.getD za8).size,.int .u8 (e3.getD za8).ext,.int .u8 (e3.getD za8).ver,.int .u16 (e3.getD za8).flags,(.slice oA3 (e3.getD za8).opts.length oc3)] (zcx b11 2 21) _ Tryz.underlying45 rfl (by kernel_rfl) ?_)
     |(refine Go.wpList_store_rowTo rfl 45 (.tmp 2) (.tmp 77) rfl rfl w.heap.size [.int .u16 af.id,.bool af.qr,.int .u8 af.op,.bool af.aa,.bool af.tc,.bool af.rd,.bool af.ra,.bool af.z,.bool af.ad,.bool af.cd,.int .u8 af.code,(.slice A l.length c),(.slice aA1 l1.length ac1),(.slice aA2 l2.length ac2),(.slice aA3 l3.length ac3),.bool e3.isSome,.int .u16 (e3.getD za8).size,.int .u8 (e3.getD za8).ext,.int .u8 (e3.getD za8).ver,.int .u16 (e3.getD za8).flags,(.slice oA3 (e3.getD za8).opts.length oc3)].toArray rfl rfl 45 _ r011 (by kernel_rfl) rfl (by kernel_rfl) ?_)
     |go_step)
    (try simp only[Exit.inBlock,Exit.then])
    refine bodyPost_ret (results_cell_row rfl _ _ w.heap.size _ _ _ _ rfl (setRow_heap v11 w.heap.size _ _ _ _ r011) Tryz.underlying45 rfl (by kernel_rfl)) rfl ?_
    have gr:=zak v11 w.heap.size [.int .u16 af.id,.bool af.qr,.int .u8 af.op,.bool af.aa,.bool af.tc,.bool af.rd,.bool af.ra,.bool af.z,.bool af.ad,.bool af.cd,.int .u8 af.code,(.slice A l.length c),(.slice aA1 l1.length ac1),(.slice aA2 l2.length ac2),(.slice aA3 l3.length ac3),.bool e3.isSome,.int .u16 (e3.getD za8).size,.int .u8 (e3.getD za8).ext,.int .u8 (e3.getD za8).ver,.int .u16 (e3.getD za8).flags,(.slice oA3 (e3.getD za8).opts.length oc3)].toArray
    have eH:=Below.grown (kz.trans ip) gr (kz.trans ip).size (fun k hk=>by injection hk with hk;omega)
    refine⟨.inr ⟨m,(.slice A l.length c),(.slice aA1 l1.length ac1),(.slice aA2 l2.length ac2),(.slice aA3 l3.length ac3),(.slice oA3 (e3.getD za8).opts.length oc3),AQ.out,by rw[Gb.out],?_⟩,eH⟩
    exact⟨((gt.by_ fun k h1 h2=>ip.block k h2).by_ fun k h1 h2=>gr.block k h2 (fun e=>by injection e with e;omega)).lower (by omega),dN⟩
abbrev zb8:Array Value:= #[.int .u16 0,.bool false,.int .u8 0,.bool false,.bool false,.bool false,.bool false,.bool false,.bool false,.bool false,.int .u8 0,.slice none 0 0,.slice none 0 0,.slice none 0 0,.slice none 0 0,.bool false,.int .u16 0,.int .u8 0,.int .u8 0,.int .u16 0,.slice none 0 0]
section
variable {P : Program}
theorem ziq {fn:Func} {p q:Tmp} {ty ty2:TypeId} (h:fn.results= #[.cell p ty,.cell q ty2]) (tmps:Array Value) (w:World) (g g2:Nat) (t:TypeId) (cs:Array Value) (fr:Nat×Nat) (d:TypeDesc) (v:Value)
 (hp:tmps.getD p undef=.pointer (some ⟨g,0,none⟩)) (hg:w.heap[g]? =some (.cells cs t fr))
 (hu:P.underlying ty=some d) (hd:(match d with| .struct _| .array _ _=>true|_=>false)=true) (hi:(P.info? ty).map (·.size)=some cs.size)
 (hq:tmps.getD q undef=.pointer (some ⟨g2,0,none⟩)) (hl:(loadVar ty2 ⟨g2,0,none⟩).run P w=.ok v w):
 (results fn tmps).run P w=.ok (.tuple #[.agg cs,v]) w:=by
 have de:tmps[p]?.getD undef=.pointer (some ⟨g,0,none⟩):=by simpa using hp
 have rb:tmps[q]?.getD undef=.pointer (some ⟨g2,0,none⟩):=by simpa using hq
 simp[results,h,de,rb,asAddr,run_loadVar_row w g t ty cs fr d hg hu hd hi,hl]
end
theorem zp5 {w:World} {g:Nat} {v:Value} (h:w.cell? ⟨g,0,none⟩=some v):(loadVar 46 ⟨g,0,none⟩).run Tryz.prog w=.ok v w:=by
 simp[loadVar,go_sem,h]
theorem zCo (p q:Addr) (w:World):
 CallsD Tryz.prog 35 #[.pointer (some p),.pointer (some q)] .returning w fun e u' w'=>e=.returned (.tuple #[])∧u'=.returning∧Ext w w':=by
 have q9:=zBs
 refine callsD_of_wpS Tryz.func35 rfl fun c₀ cs hu=>?_
 apply wpS_seq;apply wpS_region;simp[wpOpsS,go_sem,recoverD,hu,q9,Tryz.ntmps35,Exit.thenS];apply wpS_seq;apply wpS_region;simp[wpOpsS,go_sem,Exit.thenS,Array.replicate];refine wpS_cond (t:=false) (by simp[Act.eval,Array.replicate]) ?_
 simp only[Bool.false_eq_true,if_false];refine wpS_of_wp (wp_skip ?_);have hE:Ext w (w.alloc (.cells #[.int .i64 0] 94)):=(Z5 _).alloc _
 cases c₀
 simp_all [bodyPostS,results,Tryz.results35]
theorem zxf (p q k:Nat) (y:Value) (older:List PanicEntry) (w:World) (hp:w.heap[p]? =some (.cells zb8 45)) (hq:w.cell? ⟨q,0,none⟩=some y) (fq:w.frozen? ⟨q,0,none⟩=false) (Dm:p≠q) (vv:q<w.heap.size):
 CallsD Tryz.prog 35 #[.pointer (some ⟨p,0,none⟩),.pointer (some ⟨q,0,none⟩)] (.panicking ({v:=zjs k,recovered:=false}::older)) w fun e u' w'=>
  e=.returned (.tuple #[])∧u'=.panicking ({v:=zjs k,recovered:=true}::older)∧∃V,Ext w V∧w'=(V.setRow p zb8).setCell ⟨q,0,none⟩ (.int .i64 k):=by
 have q9:=zuf k
 refine callsD_of_wpS Tryz.func35 rfl fun c₀ cs hu=>?_
 apply wpS_seq;apply wpS_region;simp[wpOpsS,go_sem,recoverD,hu,q9,Tryz.ntmps35,Exit.thenS];apply wpS_seq;apply wpS_region;simp[wpOpsS,go_sem,Exit.thenS,Array.replicate];refine wpS_cond (t:=true) (by simp[Act.eval,Array.replicate]) ?_
 simp only[if_true];refine wpS_of_wp ?_;obtain⟨V,hV⟩:∃V,V=w.alloc (.cells #[.int .i64 (k:Int)] 94):=⟨_,rfl⟩
 have hE:Ext w V:=by rw[hV];exact(Z5 _).alloc _
 have hz:V.cell? ⟨w.heap.size,0,none⟩=some (.int .i64 (k:Int)):=by rw[hV];simp
 have pF:=(Z9 hp)
 have pg:V.heap[p]? =some (.cells zb8 45):=(hE.block p pF).trans hp
 have dx:V.cell? ⟨q,0,none⟩=some y:=(hE.cell (p:=⟨q,0,none⟩) vv).trans hq
 have fq1:V.frozen? ⟨q,0,none⟩=false:=(hE.frozen (p:=⟨q,0,none⟩) vv).trans fq
 have li:V.drew.heap[p]? =some (.cells zb8 45):=pg
 have gr:=zak V.drew p zb8
 have ax:(V.drew.setRow p zb8).cell? ⟨w.heap.size,0,none⟩=some (.int .i64 (k:Int)):=gr.cell (a:=⟨w.heap.size,0,none⟩) hz (fun e=>by injection e with e;(try dsimp only at e);omega)
 have eS:(V.drew.setRow p zb8).cell? ⟨q,0,none⟩=some y:=gr.cell (a:=⟨q,0,none⟩) dx (fun e=>by injection e with e;(try dsimp only at e);omega)
 have fq2:(V.drew.setRow p zb8).frozen? ⟨q,0,none⟩=false:=by
  have h1:=gr.block q (ze7 dx).2 (fun e=>by injection e with e;(try dsimp only at e);omega)
  have h2:V.drew.frozen? ⟨q,0,none⟩=false:=fq1
  simp only[World.frozen?]at h2 ⊢;rw[h1];exact h2
 rw[←hV];clear hV hp hq fq;refine wp_region_noPanic ?_;refine za6 (S:=fun V'=>V'.cell? ⟨w.heap.size,0,none⟩=some (.int .i64 (k:Int))) (.take 0 (.take 1 (.take 2 (.run 3 (.run 4 .done))))) (by kernel_rfl) (by kernel_rfl) (fun _ _ _ _ _ h=>h) hz ?_
 repeat((with_reducible refine za7 ?_);first
  |(refine za4 (v:=?_) (by rfl) (by rfl) ?_ ?_;rotate_left;(focus(intro V' hV;(try dsimp only at hV);(go_simp<;>with_reducible rfl)));(try simp only[ap])))
 refine za5 (by rfl) (fun K hK=>?_)
 rw[if_pos (by rfl)]
 refine wp_store_row 45 (.tmp 0) (.tmp 10) rfl p zb8 rfl rfl 45 _ li (by kernel_rfl) rfl (by kernel_rfl) ?_
 refine hK.out _ _ ax ?_;clear hK K
 (try simp only[ap])
 refine za5 (by rfl) (fun K hK=>?_)
 go_simp;refine hK.out _ _ ((World.cell?_setCell_other _ ⟨q,0,none⟩ ⟨w.heap.size,0,none⟩ _ (by intro e;injection e with e;omega)).trans ax) ?_
 clear hK K
 (try simp only[ap])
 refine zag ?_;refine NoPanic.normal ?_;go_wp2_with fail;refine⟨rfl,_,rfl,.tuple #[],?_,rfl,rfl,V.drew,hE.drew,rfl⟩;simp[results,Tryz.results35]
def zEd (d:List UInt8) (w:World) (e:Ending) (w':World):Prop:=
 ((∃k,k≠0∧zct d=.error k∧e=.returned (.tuple #[.agg zb8,.int .i64 (k:Int)]))∨(∃m q a u x o,zct d=.ok m∧e=.returned (.tuple #[zfd m.hd q a u x m.he m.ed o,.int .i64 0])∧MsgO w' w.heap.size m q a u x o∧MsgBd m))∧Ext w w'
theorem zvu (d:List UInt8) (w:World) (hg:Laid w) (hb:BitsAt w) (hd:d.length≤1048576):
 Calls Tryz.prog 12 #[S d] w (zEd d w):=by
 have Ai:∀(fn:Fn) (first cap:Array Value) (w:World),(Instr.makeFunc fn first cap).run Tryz.prog w=.ok (.func fn first cap) w:=fun _ _ _ _=>rfl
 go_enter_defers Tryz.func12,Tryz.ntmps12
 go_upto_region 1 with fail
 obtain⟨X2,iS⟩:∃X2,X2=(w.alloc (.cells zb8 45)).alloc (.cells #[.int .i64 0] 46):=⟨_,rfl⟩
 rw[←iS];obtain⟨p,hp⟩:∃p,p=w.heap.size:=⟨_,rfl⟩
 have ah:Ext w X2:=by rw[iS];exact((Z5 _).alloc _).alloc _
 have rp:X2.heap[p]? =some (.cells zb8 45):=by
  rw[iS,hp];have h1:=heap_alloc_new w (.cells zb8 45)
  rw[heap_alloc_old _ _ (Z9 h1)];exact h1
 have rq:X2.heap[p+1]? =some (.cells #[.int .i64 0] 46):=by rw[iS,hp];exact heap_alloc2_new w _ _
 have gj:w.heap.size≤p:=by omega
 rw[←hp];clear iS hp;have HR:=Z7 (zC0 d X2 (hg.ext ah) (hb.ext ah) hd)
 go_wp2_with fail;refine HR.out.mono ?_;rintro e w1 ⟨⟨k,cW,hk,rfl⟩|⟨m,q,a,u,x,o,hm,rfl,pK,lS⟩,ae⟩
 ·have rp1:=Z8 ae rp
  have rq1:=Z8 ae rq
  have c2:w1.cell? ⟨p+1,0,none⟩=some (.int .i64 0):=za0 (j:=0) rq1 rfl
  have f2:w1.frozen? ⟨p+1,0,none⟩=false:=za3 rq1
  have dx:=(Z9 rq1)
  have HK:=Z7 hk
  have Gd:=Z7 cW
  clear hk cW;go_wp2_with fail;refine leaves_cons (f:=35) (args:= #[.pointer (some ⟨p,0,none⟩),.pointer (some ⟨p+1,0,none⟩)]) (by simp) (by simp[go_sem]) ?_
  refine(zxf p (p+1) k _ [] w1 rp1 c2 f2 (by omega) dx).mono ?_
  rintro e u' w'' ⟨rfl,rfl,V,hV,rfl⟩;have rpV:=Z8 hV rp1
  have rqV:=Z8 hV rq1
  have gr:=zak V p zb8
  have rp2:=setRow_heap V p _ zb8 _ _ rpV
  have rq2:=(gr.block _ (Z9 rqV) (by simp)).trans rqV
  have rp3:=(Below.heap_setCell (V.setRow p zb8) ⟨p+1,0,none⟩ (.int .i64 (k:Int)) p (by dsimp only;omega)).trans rp2
  have rq3:=za2 rq2 0 (.int .i64 (k:Int))
  have Dw:Ext w V:=ah.trans (ae.trans hV)
  have mZ:=Below.setCell (Below.grown Dw gr Dw.size (fun k hk=>by injection hk with hk;omega)) (p:=⟨p+1,0,none⟩) (by dsimp only;omega) (.int .i64 (k:Int))
  refine⟨_,ziq rfl _ _ p (p+1) _ _ _ _ (.int .i64 (k:Int)) rfl rp3 Tryz.underlying45 rfl (by kernel_rfl) rfl (zp5 (za0 (j:=0) rq3 rfl)),?_⟩
  exact⟨.inl ⟨k,Gd.out,HK.out,rfl⟩,mZ⟩
 ·have rp1:=Z8 ae rp
  have rq1:=Z8 ae rq
  have Du:=Z7 hm
  have hM:=pK.msg7 lS
  obtain⟨⟨qA,qc,rfl,_,_,_⟩,⟨aA,ac,rfl,_,_,_⟩,⟨uA,uc,rfl,_,_,_⟩,⟨xA,xc,rfl,_,_,_⟩,⟨oA,oc,rfl,_,_,_⟩,_,_,_,_,_⟩:=hM
  clear hm;have gr:=zak w1 p (mrw m (.slice qA m.qs.length qc) (.slice aA m.ans.length ac) (.slice uA m.auth.length uc) (.slice xA m.extra.length xc) (.slice oA m.ed.opts.length oc))
  have rp2:=setRow_heap w1 p _ (mrw m (.slice qA m.qs.length qc) (.slice aA m.ans.length ac) (.slice uA m.auth.length uc) (.slice xA m.extra.length xc) (.slice oA m.ed.opts.length oc)) _ _ rp1
  have rq2:=(gr.block _ (Z9 rq1) (by simp)).trans rq1
  have c2:(w1.setRow p (mrw m (.slice qA m.qs.length qc) (.slice aA m.ans.length ac) (.slice uA m.auth.length uc) (.slice xA m.extra.length xc) (.slice oA m.ed.opts.length oc))).cell? ⟨p+1,0,none⟩=some (.int .i64 0):=za0 (j:=0) rq2 rfl
  have f2:(w1.setRow p (mrw m (.slice qA m.qs.length qc) (.slice aA m.ans.length ac) (.slice uA m.auth.length uc) (.slice xA m.extra.length xc) (.slice oA m.ed.opts.length oc))).frozen? ⟨p+1,0,none⟩=false:=za3 rq2
  dsimp only
  repeat(first
   |(refine Go.wpList_store_rowTo rfl 45 (.tmp 2) (.tmp 6) rfl rfl p (mrw m (.slice qA m.qs.length qc) (.slice aA m.ans.length ac) (.slice uA m.auth.length uc) (.slice xA m.extra.length xc) (.slice oA m.ed.opts.length oc)) rfl rfl 45 _ rp1 (by kernel_rfl) rfl (by kernel_rfl) ?_)
   |go_step)
  have rp3:=(Below.heap_setCell (w1.setRow p (mrw m (.slice qA m.qs.length qc) (.slice aA m.ans.length ac) (.slice uA m.auth.length uc) (.slice xA m.extra.length xc) (.slice oA m.ed.opts.length oc))) ⟨p+1,0,none⟩ (.int .i64 0) p (by dsimp only;omega)).trans rp2
  have rq3:=za2 rq2 0 (.int .i64 0)
  have co:Ext w w1:=ah.trans ae
  have mZ:=Below.setCell (Below.grown co gr co.size (fun k hk=>by injection hk with hk;omega)) (p:=⟨p+1,0,none⟩) (by dsimp only;omega) (.int .i64 0)
  have JW:=(Z9 rq)
  have vN:=(pK.by_ (w':=w1.setRow p (mrw m (.slice qA m.qs.length qc) (.slice aA m.ans.length ac) (.slice uA m.auth.length uc) (.slice xA m.extra.length xc) (.slice oA m.ed.opts.length oc))) fun k h1 h2=>gr.block k h2 (fun e=>by injection e with e;omega)).by_ (w':=(w1.setRow p (mrw m (.slice qA m.qs.length qc) (.slice aA m.ans.length ac) (.slice uA m.auth.length uc) (.slice xA m.extra.length xc) (.slice oA m.ed.opts.length oc))).setCell ⟨p+1,0,none⟩ (.int .i64 0)) fun k h1 h2=>Below.heap_setCell _ _ _ k (by dsimp only;omega)
  obtain⟨Y,hY⟩:∃Y,Y=(w1.setRow p (mrw m (.slice qA m.qs.length qc) (.slice aA m.ans.length ac) (.slice uA m.auth.length uc) (.slice xA m.extra.length xc) (.slice oA m.ed.opts.length oc))).setCell ⟨p+1,0,none⟩ (.int .i64 0):=⟨_,rfl⟩
  rw[←hY]at rp3 rq3 mZ vN ⊢;clear hY c2 f2 rp2 rq2 gr;refine leaves_cons (f:=35) (args:= #[.pointer (some ⟨p,0,none⟩),.pointer (some ⟨p+1,0,none⟩)]) (by simp) (by simp[go_sem]) ?_
  refine(zCo ⟨p,0,none⟩ ⟨p+1,0,none⟩ Y).mono ?_;rintro e u' w'' ⟨rfl,rfl,ej⟩;have rp4:=Z8 ej rp3
  have rq4:=Z8 ej rq3
  refine⟨_,ziq rfl _ _ p (p+1) _ _ _ _ (.int .i64 0) rfl rp4 Tryz.underlying45 rfl (by kernel_rfl) rfl (zp5 (za0 (j:=0) rq4 rfl)),?_⟩
  exact⟨.inr ⟨m,_,_,_,_,_,Du.out,rfl,(vN.ext ej).lower (by have:=ah.size;omega),lS⟩,Ext.trans mZ ej⟩
end Go.Proofs.YtdnpmapelmjfpaaGreatDoor
