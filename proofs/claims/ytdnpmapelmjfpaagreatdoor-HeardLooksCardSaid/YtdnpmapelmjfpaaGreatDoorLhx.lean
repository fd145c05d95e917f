/- Lemmas of this claim. No condition. -/
import Derived.Test.YtdnpmapelmjfpaaGreatDoorLht
set_option linter.unusedVariables false
set_option linter.unusedSimpArgs false
namespace Go.Proofs.YtdnpmapelmjfpaaGreatDoor
def zpq:Op→Bool
 | .move _| .assign _| .load .. | .fieldAddr .. | .field .. | .indexAddr .. | .index .. | .binOp .. | .unOp .. | .convert .. | .makeInterface .. | .slice .. | .lookup .. | .build .. | .extract .. | .pick .. =>true
 | .call {callee:=.builtin .len,..}=>true
 |_=>false
theorem zum {P:Program} {w w':World} {s:Sem Value} {n:Next} (h:(do pure (Next.value (←s)):Sem Next).run P w=.ok n w'):∃v,n=.value v:=by
 rw[Sem.run_bind]at h;cases hs:s.run P w with
 |ok x w1=>rw[hs]at h;simp only[Result.andThen_ok,Sem.run_pure]at h;injection h with h1 h2;exact⟨x,h1.symm⟩
 |halt x w1=>rw[hs]at h;simp[Result.andThen]at h
theorem zAv {P:Program} {w w':World} {s:Sem Bool} {x y:Value} {n:Next} (h:(do pure (Next.value (if ←s then x else y)):Sem Next).run P w=.ok n w'):∃v,n=.value v:=by
 rw[Sem.run_bind]at h;cases hs:s.run P w with
 |ok b w1=>rw[hs]at h;simp only[Result.andThen_ok,Sem.run_pure]at h;injection h with h1 h2;exact⟨_,h1.symm⟩
 |halt x w1=>rw[hs]at h;simp[Result.andThen]at h
theorem zrw {P:Program} {w w':World} {o:Oper} {ρ:Operand→Value} {n:Next} (hv:zpq o.op=true) (h:(execOp ρ o).run P w=.ok n w'):∃v,n=.value v:=by
 unfold execOp at h;cases bL:o.op<;>rw[bL]at h hv<;>first
  |(rename_i c;obtain⟨cl,xs,ats⟩:=c;cases cl<;>first
   |(exact Bool.noConfusion (show false=true from hv))
   |(rename_i b;cases b<;>first
    |(exact Bool.noConfusion (show false=true from hv))
    |(exact zum (s:=Builtin.len_ ats o.type (xs.map ρ)) h)))
  |(exact Bool.noConfusion (show false=true from hv))
  |(exact zum h)
  |(exact zAv h)
  |(simp only[Sem.run_pure]at h;injection h with h1 h2;exact⟨_,h1.symm⟩)
section
variable {P : Program} {ops : Array Oper} {Q : Exit → Act → World → Prop} {S : World → Prop}
theorem zb2 {i:Nat} {r:Tr} {a a':Act} {w:World} {o:Oper} {d:Nat} (vx:∃V,S V) (ho:nth ops.toList i=some o) (hd:o.dst=some d) (ab:Nat.blt d a.tmps.size=true) (hv:zpq o.op=true)
 (hy:∀V (Q':Exit→Act→World→Prop),S V→Shut (Q' .normal a' V)→wpList P ops Q' [o] a V) (h:zd4 P ops Q S r a' w):zd4 P ops Q S (.take i r) a w:=by
 have bC:d<a.tmps.size:=by simpa[Nat.blt_eq]using ab
 have key:∀V,S V→(Region.wanted o (yielded ops a.tmps)=true∧∃v,(execOp a.eval o).run P V=.ok (.value v) V∧a.put o.dst v=a')∨(Region.wanted o (yielded ops a.tmps)=false∧a.put o.dst undef=a'):=by
  intro V hV;have h1:=hy V (fun e x y=>e=.normal∧x=a'∧y=V) hV ⟨rfl,rfl,rfl⟩
  unfold wpList at h1;split at h1
  ·rename_i hw;refine .inl ⟨hw,?_⟩;rcases h1 with h1|⟨_,x,y,hx,_⟩
   case inr=>cases hx
   unfold Oper.wp at h1;cases hr:(execOp a.eval o).run P V with
   |ok n w1=>
    obtain⟨v,rfl⟩:=zrw hv hr
    rw[hr]at h1;obtain⟨_,h2,h3⟩:=h1
    subst h3;exact⟨v,rfl,h2⟩
   |halt x w1=>
    rw[hr]at h1;cases x<;>first|exact h1.elim|(obtain⟨h2,_⟩:=h1;cases h2)
  ·rename_i hw;obtain⟨_,h2,_⟩:=h1
   exact .inr ⟨by simpa using hw,h2⟩
 have ks:∀v,a.put o.dst v=a'→v=a'.tmps.getD d undef:=by
  intro v e;rw[←e,hd];simp[Act.put,bC]
 obtain⟨V0,cX⟩:=vx
 rcases key V0 cX with⟨hw,v,hr,he⟩|⟨hw,he⟩
 ·refine⟨o,v,by rw[zf3]at ho;simpa using ho,.inl ⟨hw,fun V hV=>?_⟩,by rw[he];exact h⟩
  rcases key V hV with⟨_,v',eL,FR⟩|⟨vy,_⟩
  ·rw[eL,ks v' FR,←ks v he]
  ·rw[hw]at vy;cases vy
 ·exact⟨o,undef,by rw[zf3]at ho;simpa using ho,.inr ⟨hw,rfl⟩,by rw[he];exact h⟩
def zi9:List Nat→Tr→Tr
 |[],r=>r
 |i::is,r=>.take i (zi9 is r)
theorem zE8 {o:Oper} {a:Act} {w:World} {K:Act→World→Prop} {Q1 Q2:Exit→Act→World→Prop} (hp:∀e a w,e≠.normal→Q1 e a w→Q2 e a w) (h:Oper.wp P o a w K Q1):Oper.wp P o a w K Q2:=by
 have hl:LetsOut Q1→LetsOut Q2:=fun⟨x,y,hx⟩=>⟨x,y,hp _ _ _ (by simp) hx⟩
 unfold Oper.wp at*;generalize (execOp a.eval o).run P w=r at*;cases r with
 |ok n w'=>
  cases n<;>simp only[Oper.upon]at h ⊢ <;>first
   |exact h
   |(refine Calls.mono h fun e w'' he=>?_
     cases e with
     |returned u=>exact he
     |panicked c=>exact hp _ _ _ (by simp) he
     |outgrown=>exact hl he)
 |halt x w'=>cases x<;>simp only[Oper.upon]at h ⊢ <;>first|exact h|exact hp _ _ _ (by simp) h
theorem zg1 {i:Nat} {r:Tr} {a:Act} {w:World} {o:Oper} (ho:nth ops.toList i=some o)
 (h:∀Q':Exit→Act→World→Prop,Shut (∀a w,S w→zd4 P ops Q S r a w→Q' .normal a w)→Shut (∀e a w,e≠.normal→Q e a w→Q' e a w)→wpList P ops Q' [o] a w):zd4 P ops Q S (.run i r) a w:=by
 show wpOp P ops Q i _ a w
 have h1:=h (fun e x y=>(e=.normal∧S y∧zd4 P ops Q S r x y)∨(e≠.normal∧Q e x y)) (fun _ _ h1 h2=>.inl ⟨rfl,h1,h2⟩) (fun _ _ _ h1 h2=>.inr ⟨h1,h2⟩)
 have hx:∀e x y,e≠Exit.normal→((e=.normal∧S y∧zd4 P ops Q S r x y)∨(e≠.normal∧Q e x y))→Q e x y:=by
  rintro e x y h1 (⟨h2,_⟩|⟨_,h2⟩)
  ·exact(h1 h2).elim
  ·exact h2
 unfold wpOp;rw[show ops[i]? =some o by rw[zf3]at ho;simpa using ho]
 unfold wpList at h1;dsimp only;split at h1
 ·rename_i hw;rw[if_pos hw];rcases h1 with h1|⟨h1,x,y,h2⟩
  ·refine .inl (zE8 hx (Oper.wp_mono ?_ h1));intro x y h2;rcases h2 with⟨_,h2⟩|⟨h2,_⟩
   ·exact h2
   ·exact(h2 rfl).elim
  ·exact .inr ⟨h1,x,y,hx _ _ _ (by simp) h2⟩
 ·rename_i hw;rw[if_neg hw];rcases h1 with⟨_,h2⟩|⟨h2,_⟩
  ·exact h2
  ·exact(h2 rfl).elim
end
section
variable {P : Program} {ops : Array Oper} {Q : Exit → Act → World → Prop} {S : World → Prop} {R : World → World → Prop}
end
end Go.Proofs.YtdnpmapelmjfpaaGreatDoor
