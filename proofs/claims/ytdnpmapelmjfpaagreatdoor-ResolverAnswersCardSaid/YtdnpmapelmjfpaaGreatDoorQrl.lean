/- Contracts of functions and plain lemmas that the proofs of this seat share (joined texts). No condition. -/
import Derived.Test.YtdnpmapelmjfpaaGreatDoorQv
import Derived.Test.YtdnpmapelmjfpaaGreatDoorQy
set_option linter.unusedVariables false
set_option linter.unusedSimpArgs false
namespace Go.Proofs.YtdnpmapelmjfpaaGreatDoor
open Go.RowKit
set_option maxRecDepth 100000
def ORecs (w:World) (lo:Nat) (v:Value) (l:List RecD):Prop:=∃A c,v=.slice A l.length c∧Own w lo 99 5 A l.length c (l.flatMap za5)
theorem ORecs.ext {w w':World} {lo:Nat} {v:Value} {l:List RecD} (h:ORecs w lo v l) (hE:Ext w w'):ORecs w' lo v l:=by
 obtain⟨A,c,e,h1⟩:=h;exact⟨A,c,e,h1.ext hE⟩
theorem ORecs.lower {w:World} {lo lo':Nat} {v:Value} {l:List RecD} (h:ORecs w lo v l) (hl:lo'≤lo):ORecs w lo' v l:=by
 obtain⟨A,c,e,h1⟩:=h;exact⟨A,c,e,h1.lower hl⟩
theorem zkt (w:World) (zs cs:Array Value) (t:TypeId) (g:Nat) (hg:g=w.heap.size):(w.alloc (.cells zs t)).setRow g cs=w.alloc (.cells cs t):=by
 subst hg;unfold World.setRow World.alloc;simp only;congr 1;apply Array.ext_getElem?;intro i;simp only[Array.getElem?_modify,Array.getElem?_push];by_cases h:i=w.heap.size
 ·subst h;simp
 ·rw[if_neg (fun e=>h e.symm),if_neg h,if_neg h]
end Go.Proofs.YtdnpmapelmjfpaaGreatDoor
namespace Go.Proofs.YtdnpmapelmjfpaaGreatDoor
open Go.RowKit
section
variable {P : Program} {ops : Array Oper} {Q : Exit → Act → World → Prop}
end
end Go.Proofs.YtdnpmapelmjfpaaGreatDoor
