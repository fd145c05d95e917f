/- Lemmas of this claim. No condition. -/
import Derived.Test.YtdnpmapelmjfpaaGreatDoorLj
import Derived.Test.YtdnpmapelmjfpaaGreatDoorLu0
set_option linter.unusedVariables false
set_option linter.unusedSimpArgs false
namespace Go.Proofs.YtdnpmapelmjfpaaGreatDoor
open Go.RowKit
theorem zwf {l:List SetD} {n:List UInt8} {k c:Int} {s:SetD} (h:zbo l n k c=some s):s∈l:=List.mem_of_find?_eq_some h
theorem zmn {l:List SetD} {n:List UInt8} {cls:Int}:∀{k:Nat} {b:Nat×SetD},zb1 l n cls k=some b→b.2∈l∧fitsB n cls b.2=true
 |0,b,h=>by cases h
 |k+1,b,h=>by
  unfold zb1 at h;rcases hk:l[k]? with _|s
  ·rw[hk]at h;exact zmn h
  ·rw[hk]at h;dsimp only at h;rcases hb:zb1 l n cls k with _|c
   ·rw[hb]at h;dsimp only at h;split at h
    ·injection h with h;subst h;exact⟨List.mem_of_getElem? hk,‹_›⟩
    ·cases h
   ·rw[hb]at h;dsimp only at h;split at h
    ·rename_i hc;rw[Bool.and_eq_true]at hc;injection h with h;subst h;exact⟨List.mem_of_getElem? hk,hc.1⟩
    ·exact zmn (hb.trans h)
theorem zqi {l:List SetD} {n:List UInt8} {cls:Int} {s:SetD} (h:(soaFind l n cls).set=some s):s∈l∧fitsB n cls s=true∧s.data.length=1:=by
 unfold soaFind zn0 at h;rcases hb:zb1 l n cls l.length with _|⟨j,x⟩
 ·rw[hb]at h;cases h
 ·rw[hb]at h;dsimp only at h;split at h
  ·injection h with h;subst h;exact⟨(zmn hb).1,(zmn hb).2,‹_›⟩
  ·cases h
structure FolIn (l:List SetD) (R:FolR):Prop where
 path:∀s∈R.path,s∈l
 len:R.path.length≤8
 fin:∀s∈R.fin,s∈l
 one:R.fin.length≤1
theorem FolIn.bad (l:List SetD) (e:Nat):FolIn l (FolR.bad e):=⟨by simp[FolR.bad],by simp[FolR.bad],by simp[FolR.bad],by simp[FolR.bad]⟩
theorem FolIn.ok (l:List SetD) (here:List UInt8) (ty cls:Int) (path:List SetD) (h:∀s∈path,s∈l) (h8:path.length≤8):FolIn l ⟨path,here,(zbo l here ty cls).toList,0⟩:=
 ⟨h,h8,fun s hs=>by
  rcases hf:zbo l here ty cls with _|x
  ·rw[hf]at hs;cases hs
  ·rw[hf]at hs;rw[Option.toList_some,List.mem_singleton]at hs;subst hs;exact zwf hf,by cases zbo l here ty cls<;>simp⟩
theorem zox (l:List SetD) (ty cls:Int):∀(n:Nat) (here:List UInt8) (seen:List (List UInt8)) (path:List SetD),(∀s∈path,s∈l)→path.length≤8→FolIn l (followF l ty cls n here seen path)
 |0,_,_,_,_,_=>FolIn.bad l 0
 |n+1,here,seen,path,h,h8=>by
  simp only[followF];split
  ·exact FolIn.ok l here ty cls path h h8
  ·split
   ·exact FolIn.ok l here ty cls path h h8
   ·rename_i a hf;split
    ·exact FolIn.bad l 5
    ·rename_i hp;split
     ·exact FolIn.bad l 3
     ·split
      ·exact FolIn.bad l 3
      ·split
       ·exact FolIn.bad l 8
       ·refine zox l ty cls n _ _ _ (fun s hs=>?_) (by rw[Z6,List.length_singleton];omega)
        rcases List.mem_append.1 hs with h'|h'
        ·exact h s h'
        ·rw[List.mem_singleton]at h';subst h';exact zwf hf
theorem zr2 (l:List SetD) (n:List UInt8) (ty cls:Int):FolIn l (followOf n ty cls l):=by
 unfold followOf;split
 ·exact zox l ty cls 9 _ _ _ (by simp) (by simp)
 ·exact FolIn.bad l 1
end Go.Proofs.YtdnpmapelmjfpaaGreatDoor
