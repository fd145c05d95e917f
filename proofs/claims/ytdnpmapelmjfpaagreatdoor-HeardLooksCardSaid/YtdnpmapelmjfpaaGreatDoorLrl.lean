/- Lemmas of this claim. No condition. -/
import Derived.Test.YtdnpmapelmjfpaaGreatDoorLy
set_option linter.unusedVariables false
set_option linter.unusedSimpArgs false
set_option maxRecDepth 100000
namespace Go.Proofs.YtdnpmapelmjfpaaGreatDoor
open Go.RowKit
def ORecs (w:World) (lo:Nat) (v:Value) (l:List RecD):Prop:=∃A c,v=.slice A l.length c∧Own w lo 99 5 A l.length c (l.flatMap zaq)
theorem ORecs.ext {w w':World} {lo:Nat} {v:Value} {l:List RecD} (h:ORecs w lo v l) (hE:Ext w w'):ORecs w' lo v l:=by
 obtain⟨A,c,e,h1⟩:=h;exact⟨A,c,e,h1.ext hE⟩
theorem ORecs.recs {w:World} {lo:Nat} {v:Value} {l:List RecD} (h:ORecs w lo v l):Recs w lo v l:=by
 obtain⟨A,c,e,h1⟩:=h;exact⟨A,c,e,h1.cap.1,h1.cap.2,h1.rd⟩
theorem ORecs.lower {w:World} {lo lo':Nat} {v:Value} {l:List RecD} (h:ORecs w lo v l) (hl:lo'≤lo):ORecs w lo' v l:=by
 obtain⟨A,c,e,h1⟩:=h;exact⟨A,c,e,h1.lower hl⟩
theorem zsi (w:World) (zs cs:Array Value) (t:TypeId) (g:Nat) (hg:g=w.heap.size):(w.alloc (.cells zs t)).setRow g cs=w.alloc (.cells cs t):=by
 subst hg;unfold World.setRow World.alloc;simp only;congr 1;apply Array.ext_getElem?;intro i;simp only[Array.getElem?_modify,Array.getElem?_push];by_cases h:i=w.heap.size
 ·subst h;simp
 ·rw[if_neg (fun e=>h e.symm),if_neg h,if_neg h]
theorem zda {w:World} {g:Nat} {cs:Array Value} {t:TypeId} {fr:Nat×Nat} (h:w.heap[g]? =some (.cells cs t fr)):∀j,w.cell? ⟨g,j,none⟩=cs[j]? :=fun j=>by simp[World.cell?,h]
theorem zjd (w:World) (o:Obj) (g:Nat) (hg:g=w.heap.size):(w.alloc o).heap[g]? =some o:=by subst hg;exact heap_alloc_new w o
section
variable {P : Program} {ops : Array Oper} {Q : Exit → Act → World → Prop}
end
end Go.Proofs.YtdnpmapelmjfpaaGreatDoor
