/- Lemmas of this claim. No condition. -/
import Derived.Test.YtdnpmapelmjfpaaGreatDoorLq
import Derived.Test.YtdnpmapelmjfpaaGreatDoorLg
set_option linter.unusedVariables false
set_option linter.unusedSimpArgs false
namespace Go.Proofs.YtdnpmapelmjfpaaGreatDoor
open Go.RowKit
inductive Tr where
 |done:Tr
 |take:Nat→Tr→Tr
 |run:Nat→Tr→Tr
 |run2:Nat→Tr→Nat→Tr→Tr
 |any:Nat→Array Bool→Tr
section
variable {P : Program} {ops : Array Oper} {Q : Exit → Act → World → Prop} {md : Region.Mode} {S : World → Prop}
def zd4 (P:Program) (ops:Array Oper) (Q:Exit→Act→World→Prop) (S:World→Prop):Tr→Act→World→Prop
 | .done,a,w=>Q .normal a w
 | .take i r,a,w=>∃o v,ops[i]? =some o∧YieldsIf P ops S o v a∧zd4 P ops Q S r (a.put o.dst v) w
 | .run i r,a,w=>wpOp P ops Q i (fun a' w'=>S w'∧zd4 P ops Q S r a' w') a w
 | .run2 i r j s,a,w=>wpOp P ops Q i (fun a' w'=>S w'∧zd4 P ops Q S r a' w') a w∧wpOp P ops Q j (fun a' w'=>S w'∧zd4 P ops Q S s a' w') a w
 | .any n l,a,w=>wpAnyH P .any ops Q S n l a w
def okT (md:Region.Mode) (ops:Array Oper):Tr→Nat→Array Bool→Bool
 | .done,n,listed=>decide (n=0)&&(Region.ready md ops listed).isEmpty
 | .take i r,n,listed=>decide (0<n)&&(Region.free md ops listed i&&((Region.ready md ops listed).contains i&&okT md ops r (n - 1) (listed.setIfInBounds i true)))
 | .run i r,n,listed=>decide (0<n)&&(decide (Region.ready md ops listed=[i])&&okT md ops r (n - 1) (listed.setIfInBounds i true))
 | .run2 i r j s,n,listed=>decide (0<n)&&(decide (Region.ready md ops listed=[i,j])&&(okT md ops r (n - 1) (listed.setIfInBounds i true)&&okT md ops s (n - 1) (listed.setIfInBounds j true)))
 | .any m l,n,listed=>decide (md=.any)&&(decide (m=n)&&decide (l.toList=listed.toList))
theorem zis (hs:Region.noSelect ops=true) (hQ:∀(o:Oper) (v:Value) c a w,Q (.panic c) (a.put o.dst v) w→Q (.panic c) a w):
 ∀(t:Tr) (n:Nat) (listed:Array Bool) (a:Act) (w:World),okT md ops t n listed=true→S w→zd4 P ops Q S t a w→wpAnyH P md ops Q S n listed a w
 | .done,n,listed,a,w,ho,hS,h=>by
   simp only[okT,Bool.and_eq_true,decide_eq_true_eq]at ho;obtain⟨rfl,ho⟩:=ho
   exact wpAnyH_done (by simpa using ho) h 0
 | .take i r,n,listed,a,w,ho,hS,h=>by
   simp only[okT,Bool.and_eq_true,decide_eq_true_eq]at ho;obtain⟨hn,h1,h2,h3⟩:=ho
   obtain⟨m,rfl⟩:∃m,n=m+1:=⟨n - 1,by omega⟩
   obtain⟨o,v,k1,k2,k3⟩:=h
   exact wpAnyH_take k1 hs h1 h2 (hQ o v) k2 hS (zis hs hQ r _ _ _ _ h3 hS k3)
 | .run i r,n,listed,a,w,ho,hS,h=>by
   simp only[okT,Bool.and_eq_true,decide_eq_true_eq]at ho;obtain⟨hn,h1,h2⟩:=ho
   obtain⟨m,rfl⟩:∃m,n=m+1:=⟨n - 1,by omega⟩
   refine wpAnyH_all h1 (by simp) (fun j hj=>?_)
   rw[List.mem_singleton]at hj;subst hj;exact wpOp_mono (fun a' w' hk=>⟨hk.1,zis hs hQ r _ _ _ _ h2 hk.1 hk.2⟩) h
 | .run2 i r k s,n,listed,a,w,ho,hS,h=>by
   simp only[okT,Bool.and_eq_true,decide_eq_true_eq]at ho;obtain⟨hn,h1,h2,h3⟩:=ho
   obtain⟨m,rfl⟩:∃m,n=m+1:=⟨n - 1,by omega⟩
   refine wpAnyH_all h1 (by simp) (fun j hj=>?_)
   simp only[List.mem_cons,List.not_mem_nil,or_false]at hj;rcases hj with rfl|rfl
   ·exact wpOp_mono (fun a' w' hk=>⟨hk.1,zis hs hQ r _ _ _ _ h2 hk.1 hk.2⟩) h.1
   ·exact wpOp_mono (fun a' w' hk=>⟨hk.1,zis hs hQ s _ _ _ _ h3 hk.1 hk.2⟩) h.2
 | .any m l,n,listed,a,w,ho,hS,h=>by
   simp only[okT,Bool.and_eq_true,decide_eq_true_eq]at ho;obtain⟨rfl,rfl,h3⟩:=ho
   have hl:l=listed:=by cases l;cases listed;simp at h3;rw[h3]
   subst hl;exact h
theorem za6 {id:Nat} {a:Act} {w:World} (t:Tr) (hm:P.follows .mixedOrders=true)
 (hc:(Region.noSelect ops&&okT .any ops t ops.size (Array.replicate ops.size false))=true)
 (hQ:∀(o:Oper) (v:Value) c a w,Q (.panic c) (a.put o.dst v) w→Q (.panic c) a w) (hS:S w.drew) (h:zd4 P ops Q S t a w.drew):(Code.region id ops true).wp P Q a w:=by
 simp only[Bool.and_eq_true]at hc;refine wp_region_held (S:=S) hm ?_
 exact zis hc.1 hQ t _ _ a w.drew hc.2 hS h
theorem za4 {i:Nat} {r:Tr} {a:Act} {w:World} {o:Oper} {v:Value} (ho:nth ops.toList i=some o) (hw:Region.wanted o (yielded ops a.tmps)=true)
 (hy:∀w,S w→(execOp a.eval o).run P w=.ok (.value v) w) (h:zd4 P ops Q S r (a.put o.dst v) w):zd4 P ops Q S (.take i r) a w:=
 ⟨o,v,by rw[zf3]at ho;simpa using ho,.inl ⟨hw,hy⟩,h⟩
theorem zaf {i:Nat} {r:Tr} {a:Act} {w:World} {o:Oper} (ho:nth ops.toList i=some o) (hw:Region.wanted o (yielded ops a.tmps)=false)
 (h:zd4 P ops Q S r (a.put o.dst undef) w):zd4 P ops Q S (.take i r) a w:=
 ⟨o,undef,by rw[zf3]at ho;simpa using ho,.inr ⟨hw,rfl⟩,h⟩
theorem za7 {i:Nat} {r:Tr} {a:Act} {w:World} (h:zd4 P ops Q S (.take i r) a w):zd4 P ops Q S (.take i r) a w:=h
theorem za5 {i:Nat} {r:Tr} {a:Act} {w:World} {o:Oper} (ho:nth ops.toList i=some o)
 (h:∀K':Act→World→Prop,Shut (∀a w,S w→zd4 P ops Q S r a w→K' a w)→if Region.wanted o (yielded ops a.tmps)=true then Oper.wp P o a w K' Q else K' (a.put o.dst undef) w):zd4 P ops Q S (.run i r) a w:=by
 show wpOp P ops Q i _ a w
 exact wpOp_step (by rw[zf3]at ho;simpa using ho) (fun K' hK=>h K' (fun a w hS hW=>hK a w ⟨hS,hW⟩))
theorem ziv {i j:Nat} {r s:Tr} {a:Act} {w:World} (h1:zd4 P ops Q S (.run i r) a w) (h2:zd4 P ops Q S (.run j s) a w):zd4 P ops Q S (.run2 i r j s) a w:=⟨h1,h2⟩
theorem zag {a:Act} {w:World} (h:Q .normal a w):zd4 P ops Q S .done a w:=h
end
end Go.Proofs.YtdnpmapelmjfpaaGreatDoor
