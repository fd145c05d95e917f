/- Contracts of functions and plain lemmas that the proofs of this seat share (joined texts). No condition. -/
import Derived.Test.YtdnpmapelmjfpaaGreatDoorQe
import Derived.StillTailTactics
import Derived.Deep.RegionLaw
set_option maxHeartbeats 2000000
set_option linter.unusedVariables false
set_option linter.unusedSimpArgs false
namespace Go.Proofs.YtdnpmapelmjfpaaGreatDoor
open Go.RowKit
set_option maxRecDepth 100000
def timeT (t:Int):Int:=if 2147483647<t then 0 else t
theorem zsu (t:Int) (w:World):Calls Tryz.prog 103 #[.int .u32 t] w fun e w'=>e=.returned (.int .u32 (timeT t))∧w=w':=by
 by_cases h:2147483647<t
 ·rw[show timeT t=0 by unfold timeT;rw[if_pos h]]
  go_enter Tryz.func103,Tryz.ntmps103
  go_wp2
  go_ret;exact⟨rfl,rfl⟩
 ·rw[show timeT t=t by unfold timeT;rw[if_neg h]]
  go_enter Tryz.func103,Tryz.ntmps103
  go_wp2
  go_ret;exact⟨rfl,rfl⟩
def zd8:List (List UInt8)→List UInt8→List (List UInt8)
 |[],s=>[s]
 |x::r,s=>if bl s x then s::x::r else x::zd8 r s
def zdu (l:List (List UInt8)) (s:List UInt8):List (List UInt8):=if l.contains s then l else zd8 l s
theorem zwh (a b:List (List UInt8)) (s:List UInt8) (h:a.any (bl s)=true):zd8 (a++b) s=zd8 a s++b:=by
 induction a with
 |nil=>simp at h
 |cons x a ih=>
  rw[List.cons_append];unfold zd8;by_cases hx:bl s x=true
  ·rw[if_pos hx,if_pos hx];rfl
  ·rw[if_neg hx,if_neg hx,List.cons_append,ih (by simpa[hx]using h)]
theorem zo3 (a b:List (List UInt8)) (s:List UInt8) (h:a.any (bl s)=false):zd8 (a++b) s=a++zd8 b s:=by
 induction a with
 |nil=>rfl
 |cons x a ih=>
  have hx:¬bl s x=true:=by intro e;simp[e]at h
  rw[List.cons_append]
  conv=>lhs;unfold zd8
  rw[if_neg hx,List.cons_append,ih (by simpa[hx]using h)]
theorem zqx (a:List (List UInt8)) (x s:List UInt8) (h1:a.contains s=false) (h2:x≠s):(a++[x]).contains s=false:=by
 rw[←Bool.not_eq_true,List.contains_iff_mem]at h1 ⊢;intro h;rcases List.mem_append.1 h with h|h
 ·exact h1 h
 ·rw[List.mem_singleton]at h;exact h2 h.symm
theorem zym (a:List (List UInt8)) (s:List UInt8) (h:a.any (bl s)=false):zd8 a s=a++[s]:=by
 have:=zo3 a [] s h
 rw[List.append_nil]at this;exact this
def putTo (l:List (List UInt8)) (s:List UInt8) (k:Nat):List (List UInt8):=if(l.take k).any (bl s)then zd8 (l.take k) s else l.take k
theorem zs3 (l:List (List UInt8)) (s:List UInt8):(zd8 l s).length=l.length+1:=by
 induction l with
 |nil=>rfl
 |cons x r ih=>simp only[zd8];split<;>simp[ih]
theorem zqe (l:List (List UInt8)) (s:List UInt8) (k:Nat):(putTo l s k).length≤l.length+1:=by
 unfold putTo;split
 ·rw[zs3];simp;omega
 ·simp;omega
theorem zww (l:List (List UInt8)) (s:List UInt8) (k:Nat) (h:k<l.length) (x:List UInt8) (hx:l[k]=x):
 ((l.take k).any (bl s)=false→bl s x=true→putTo l s (k+1)=putTo l s k++[s]++[x]∧(l.take (k+1)).any (bl s)=true)∧
 ((l.take k).any (bl s)=true→putTo l s (k+1)=putTo l s k++[x]∧(l.take (k+1)).any (bl s)=true)∧
 ((l.take k).any (bl s)=false→bl s x=false→putTo l s (k+1)=putTo l s k++[x]∧(l.take (k+1)).any (bl s)=false):=by
 unfold putTo;rw[zax l k h,hx,List.any_append];refine⟨fun h1 h2=>?_,fun h1=>?_,fun h1 h2=>?_⟩
 ·refine⟨?_,by simp[h2]⟩
  rw[h1];simp only[List.any_cons,List.any_nil,h2,Bool.or_false,Bool.or_true,if_true];rw[zo3 _ _ _ h1];simp[zd8,h2]
 ·refine⟨?_,by simp[h1]⟩
  rw[h1];simp only[Bool.true_or,if_true];rw[zwh _ _ _ h1]
 ·refine⟨?_,by simp[h1,h2]⟩
  rw[h1];simp[h2]
def zCz (lo:Nat) (l:List (List UInt8)) (w:World) (e:Ending) (w':World):Prop:=∃v,e=.returned v∧OStrs w' lo v l∧Ext w w'
theorem zE3 (lo:Nat) (v:Value) (l:List (List UInt8)) (s:List UInt8) (w:World) (h:OStrs w lo v l) (hlo:lo≤w.heap.size) (hl:l.length≤65536):
 Calls Tryz.prog 104 #[v,S s] w (zCz lo (zdu l s) w):=by
 obtain⟨A,c,rfl,hown⟩:=h
 have hrd:=hown.rd
 obtain⟨i0,hi0,hz0,hz1,hz2⟩:=info_parts zef
 obtain⟨R,hR⟩:∃R,R=zdu l s:=⟨_,rfl⟩
 rw[←hR];have HR:=Lib.hid hR
 clear hR;go_enter Tryz.func104,Tryz.ntmps104
 go_wp2
 go_loopw [5,6,7] (fun o dn i wr=>∃(k:Nat) (B:Option Addr) (d:Nat),k≤l.length∧i=.int .i64 k∧dn=.bool ((l.take k).any (bl s))∧o=.slice B (putTo l s k).length d∧Own wr w.heap.size 9 1 B (putTo l s k).length d ((putTo l s k).map S)∧Ext w wr∧(l.take k).contains s=false) (fun _ _ i _=>l.length - (intOf i).toNat)
 case atStart=>exact⟨0,none,0,by omega,rfl,rfl,rfl,Own.nil _ _ _ _,Ext.refl _,rfl⟩
 case round=>
  obtain⟨k,B,d,hk,rfl,rfl,rfl,ho,hE,hno⟩:=hrel
  obtain⟨wo,rfl⟩:∃wo:World,wo=wr:=⟨_,rfl⟩
  have Hno:=Lib.hid hno
  clear hno;have hzo:=hE.size
  by_cases hlt:k<l.length
  ·obtain⟨b,off,rfl,_,hbz,hc⟩:=hrd.2 (by omega)
   have hck:=hc k (S l[k]) (by simp[List.getElem?_eq_getElem hlt])
   obtain⟨x,hx⟩:∃x,x=l[k]:=⟨_,rfl⟩
   rw[←hx]at hck;have Hx:=Lib.hid hx
   have Hst:=Lib.hid (zww l s k hlt x hx.symm)
   have hpl:=zqe l s k
   rw[←hE.cell (p:=⟨b,_,none⟩) hbz]at hck
   have hbz2:b<wo.heap.size:=Nat.lt_of_lt_of_le hbz hE.size
   clear hc hrd hx;generalize putTo l s k=T at*;by_cases hs:x=s
   ·have f1:(x==s)=true:=by rw[hs];simp
    have HF:=Lib.hid (show R=l by
     rw[HR.out];unfold zdu;rw[if_pos (by rw[List.contains_iff_mem,←hs,Hx.out];exact List.getElem_mem hlt)])
    clear hs;generalize (l.take k).any (bl s)=dn at*;go_wp2_with fail;go_ret;exact⟨_,rfl,by rw[HF.out];exact⟨_,c,rfl,hown.ext hE⟩,hE⟩
   ·have f1:(x==s)=false:=by rw[beq_eq_false_iff_ne];exact hs
    have HN:Hid ((l.take (k+1)).contains s=false):=by
     show _=_
     rw[zax l k hlt,←Hx.out];exact zqx _ _ _ Hno.out hs
    rcases hdn:(l.take k).any (bl s)with _|_
    ·rcases hlx:bl s x with _|_
     ·have g1:Op.bytesLess x s=true:=by
       rcases hq:Op.bytesLess x s with _|_
       ·exact absurd (zex x s hq hlx) hs
       ·rfl
      have Hs3:=Lib.hid (Hst.out.2.2 hdn hlx)
      clear hs hdn Hst;go_wp2_with(
       at_builtin
       refine zai _ rfl (.tmp 35) (.tmp 40) _ rfl w.heap.size 9 i0 _ 1 16 Tryz.underlying77 hi0 hz0 hz1 hz2 rfl (by omega) B T.length d (T.map S) rfl (ho.ext ((Ext.refl _).alloc _)) 0 _ 1 1 ([x].map S) rfl (zaz _ _ rfl _ _ 1 1 rfl) (zdh _) (by omega) (by omega) (by simp;omega) ?_
       intro A5 c5 w5 hown5 hg5 hb5 _)
      go_roundw
      case rel=>
       refine⟨k+1,A5,c5,by omega,by go_num,by rw[Hs3.out.2],by rw[Hs3.out.1,List.length_append];rfl,?_,(hE.alloc _).then hb5 (Nat.le_refl _),HN.out⟩
       rw[Hs3.out.1,List.length_append,List.map_append];exact hown5
      case measure=>simp[intOf];omega
     ·have g1:Op.bytesLess x s=false:=(zly s x hlx).1
      have Hs1:=Lib.hid (Hst.out.1 hdn hlx)
      clear hs hdn Hst;go_wp2_with(first
       |(at_builtin
         refine zai _ rfl (.tmp 31) (.tmp 33) _ rfl w.heap.size 9 i0 _ 1 16 Tryz.underlying77 hi0 hz0 hz1 hz2 rfl (by omega) B T.length d (T.map S) rfl (ho.ext ((Ext.refl _).alloc _)) 0 _ 1 1 ([s].map S) rfl (zaz _ _ rfl _ _ 1 1 rfl) (zdh _) (by omega) (by omega) (by simp;omega) ?_
         intro A4 c4 w4 hown4 hg4 hb4 _;have hE4:Ext w w4:=(hE.alloc _).then hb4 (Nat.le_refl _)
         have hzz4:=hE4.size
         have hck4:w4.cell? ⟨b,off+k,none⟩=some (S x):=(hb4.cell (p:=⟨b,_,none⟩) hbz).trans ((World.cell?_alloc_lt _ _ ⟨b,_,none⟩ hbz2).trans hck))
       |(at_builtin
         refine zai _ rfl (.tmp 35) (.tmp 40) _ rfl w.heap.size 9 i0 _ 1 16 Tryz.underlying77 hi0 hz0 hz1 hz2 rfl (by omega) A4 (T.length+1) c4 (T.map S++[s].map S) rfl (hown4.ext ((Ext.refl _).alloc _)) 0 _ 1 1 ([x].map S) rfl (zaz _ _ rfl _ _ 1 1 rfl) (zdh _) (by omega) (by omega) (by simp;omega) ?_
         intro A5 c5 w5 hown5 hg5 hb5 _))
      go_roundw
      case rel=>
       refine⟨k+1,A5,c5,by omega,by go_num,by rw[Hs1.out.2],by rw[Hs1.out.1,List.length_append,List.length_append];rfl,?_,(hE4.alloc _).then hb5 (Nat.le_refl _),HN.out⟩
       rw[Hs1.out.1,List.length_append,List.length_append,List.map_append,List.map_append];exact hown5
      case measure=>simp[intOf];omega
    ·have Hs2:=Lib.hid (Hst.out.2.1 hdn)
     clear hs hdn Hst;go_wp2_with(
      at_builtin
      refine zai _ rfl (.tmp 35) (.tmp 40) _ rfl w.heap.size 9 i0 _ 1 16 Tryz.underlying77 hi0 hz0 hz1 hz2 rfl (by omega) B T.length d (T.map S) rfl (ho.ext ((Ext.refl _).alloc _)) 0 _ 1 1 ([x].map S) rfl (zaz _ _ rfl _ _ 1 1 rfl) (zdh _) (by omega) (by omega) (by simp;omega) ?_
      intro A5 c5 w5 hown5 hg5 hb5 _)
     go_roundw
     case rel=>
      refine⟨k+1,A5,c5,by omega,by go_num,by rw[Hs2.out.2],by rw[Hs2.out.1,List.length_append];rfl,?_,(hE.alloc _).then hb5 (Nat.le_refl _),HN.out⟩
      rw[Hs2.out.1,List.length_append,List.map_append];exact hown5
     case measure=>simp[intOf];omega
  ·have e1:l.take k=l:=List.take_of_length_le (by omega)
   have hpl:=zqe l s k
   have HP:=Lib.hid (show putTo l s k=if l.any (bl s)then zd8 l s else l by unfold putTo;rw[e1])
   rw[e1]at Hno ⊢;have HI:=Lib.hid (show R=zd8 l s by rw[HR.out];unfold zdu;rw[if_neg (by rw[Hno.out];simp)])
   clear e1;generalize putTo l s k=T at*;rcases hdn:l.any (bl s)with _|_
   ·rw[hdn]at HP;have HT:=Lib.hid (show T=l from HP.out)
    have HJ:=Lib.hid (zym l s hdn)
    clear hdn;go_wp2_with(
     at_builtin
     refine zai _ rfl (.tmp 44) (.tmp 46) _ rfl w.heap.size 9 i0 _ 1 16 Tryz.underlying77 hi0 hz0 hz1 hz2 rfl (by omega) B T.length d (T.map S) rfl (ho.ext ((Ext.refl _).alloc _)) 0 _ 1 1 ([s].map S) rfl (zaz _ _ rfl _ _ 1 1 rfl) (zdh _) (by omega) (by omega) (by simp;omega) ?_
     intro A5 c5 w5 hown5 hg5 hb5 _)
    go_ret;refine⟨_,rfl,?_,(hE.alloc _).then hb5 (Nat.le_refl _)⟩
    rw[HI.out,HJ.out,←HT.out];refine⟨A5,c5,by simp,?_⟩
    rw[List.length_append,List.map_append];exact hown5.lower hlo
   ·rw[hdn]at HP;have HT:=Lib.hid (show T=zd8 l s from HP.out)
    clear hdn;go_wp2_with fail;go_ret;refine⟨_,rfl,?_,hE⟩;rw[HI.out,←HT.out];exact⟨B,d,rfl,ho.lower hlo⟩
def zen (a b:SetD):Bool:=if cmpN a.name b.name=0 then(if a.typ=b.typ then decide (a.cls<b.cls)else decide (a.typ<b.typ))else decide (cmpN a.name b.name<0)
theorem zhs {x y:Int} (h:x≠y):(x==y)=false∧(x !=y)=true:=by
 have:(x==y)=false:=by rw[beq_eq_false_iff_ne];exact h
 exact⟨this,by rw[bne,this];rfl⟩
theorem zja {x y:Int} (h:x=y):(x==y)=true∧(x !=y)=false:=by
 have:(x==y)=true:=by rw[beq_iff_eq];exact h
 exact⟨this,by rw[bne,this];rfl⟩
theorem zc0 {w w':World} {cs:Array Value} {t:TypeId} (g:Nat) (hg:g=w.heap.size) (hE:Ext (w.alloc (.cells cs t)) w'):(∀j,w'.cell? ⟨g,j,none⟩=cs[j]?)∧(∀j,w'.frozen? ⟨g,j,none⟩=false)∧g<w'.heap.size:=by
 subst hg;exact zb0 hE
theorem zxc (a b:SetD) (d e':Value) (lo lo':Nat) (w:World) (hd:Strs w lo d a.data) (he:Strs w lo' e' b.data) (ha:a.name.length≤1048576) (hb:b.name.length≤1048576):
 Calls Tryz.prog 105 #[zch a d,zch b e'] w fun e w'=>e=.returned (.bool (zen a b))∧Ext w w':=by
 obtain⟨an,at_,ac,atl,ad⟩:=a
 obtain⟨bn,bt,bc,btl,bd⟩:=b
 dsimp only at*;obtain⟨dA,dc,rfl⟩:=hd.shape
 obtain⟨eA,ec,rfl⟩:=he.shape
 clear hd he;have HC:=Lib.hid (fun W=>zu6 an bn W ha hb)
 obtain⟨R,hR⟩:∃R,R=zen ⟨an,at_,ac,atl,ad⟩ ⟨bn,bt,bc,btl,bd⟩:=⟨_,rfl⟩
 rw[←hR];unfold zen at hR;dsimp only at hR;generalize cmpN an bn=c at*;by_cases h0:c=0
 ·rw[if_pos h0]at hR;subst h0;by_cases h1:at_=bt
  ·rw[if_pos h1]at hR;have HR:=Lib.hid hR
   obtain⟨f1,f2⟩:=zja h1
   subst h1;clear hR;go_enter Tryz.func105,Tryz.ntmps105;go_wp2_with fail;refine(HC.out _).mono ?_;rintro e w1 ⟨rfl,hE1⟩;obtain⟨hq,hqf,hqz⟩:=zc0 (w.heap.size+1) (by simp) hE1
   obtain⟨hp,hpf,hpz⟩:=zc0 w.heap.size rfl (((Ext.refl _).alloc _).trans hE1)
   go_wp2_with fail;go_ret;exact⟨zb3 HR.out.symm,(((Ext.refl _).alloc _).alloc _).trans hE1⟩
  ·rw[if_neg h1]at hR;have HR:=Lib.hid hR
   obtain⟨f1,f2⟩:=zhs h1
   clear hR h1;go_enter Tryz.func105,Tryz.ntmps105;go_wp2_with fail;refine(HC.out _).mono ?_;rintro e w1 ⟨rfl,hE1⟩;obtain⟨hq,hqf,hqz⟩:=zc0 (w.heap.size+1) (by simp) hE1
   obtain⟨hp,hpf,hpz⟩:=zc0 w.heap.size rfl (((Ext.refl _).alloc _).trans hE1)
   go_wp2_with fail;go_ret;exact⟨zb3 HR.out.symm,(((Ext.refl _).alloc _).alloc _).trans hE1⟩
 ·rw[if_neg h0]at hR;have HR:=Lib.hid hR
  obtain⟨f1,f2⟩:=zhs h0
  clear hR h0;go_enter Tryz.func105,Tryz.ntmps105;go_wp2_with fail;refine(HC.out _).mono ?_;rintro e w1 ⟨rfl,hE1⟩;go_wp2_with fail;go_ret;exact⟨zb3 HR.out.symm,(((Ext.refl _).alloc _).alloc _).trans hE1⟩
def zxs (lo:Nat) (r:Option SetD) (w0 w:World) (e:Ending) (w':World):Prop:=
 ∃d,e=.returned (.tuple #[zch (r.getD SetD.zero) d,.bool r.isSome])∧Strs w0 lo d (r.getD SetD.zero).data∧Ext w w'
theorem zC1 (lo:Nat) (v:Value) (l:List SetD) (n:List UInt8) (kind cls:Int) (w0 w:World) (h:Sets w0 lo v l) (hE0:Ext w0 w) (hbd:zdw l) (hn:n.length≤1048576):
 Calls Tryz.prog 170 #[v,S n,.int .u16 kind,.int .u16 cls] w (zxs lo (zbs l n kind cls) w0 w):=by
 obtain⟨ps,A,c,hl,rfl,h1,h2,hrd0,hst⟩:=h
 have hrd:=hrd0.ext hE0
 clear hrd0;unfold maxLen at h2;have hlen:ps.length=l.length:=by rw[←hl];simp
 obtain⟨R,hR⟩:∃R,R=zbs l n kind cls:=⟨_,rfl⟩
 rw[←hR];have HR:=Lib.hid hR
 have Hl:=Lib.hid hl
 have Hlen:=Lib.hid hlen
 clear hR hl hlen;go_enter Tryz.func170,Tryz.ntmps170
 go_wp2
 go_loopw [10] (fun i wr=>∃k:Nat,k≤ps.length∧i=.int .i64 k∧(l.take k).find? (zgb n kind cls)=none∧Ext (w.alloc (.cells #[S [],.int .u16 0,.int .u16 0,.int .u32 0,.slice none 0 0] 79)) wr) (fun i _=>ps.length - (intOf i).toNat)
 case atStart=>exact⟨0,by omega,rfl,rfl,Ext.refl _⟩
 case round=>
  obtain⟨k,hk,rfl,hno,hE⟩:=hrel
  obtain⟨wo,rfl⟩:∃wo:World,wo=wr:=⟨_,rfl⟩
  have Hno:=Lib.hid hno
  clear hno;have hEw:Ext w wo:=((Ext.refl w).alloc _).trans hE
  by_cases hlt:k<ps.length
  ·have hlt':k<l.length:=by rw[←Hlen.out];exact hlt
   have hp:ps[k]? =some ps[k]:=List.getElem?_eq_getElem hlt
   have hpl:l[k]=ps[k].1:=by simp[←Hl.out]
   have hfs:=zpv (zgb n kind cls) l k hlt' Hno.out
   rw[hpl]at hfs;have hbs:=hbd l[k] (List.getElem_mem hlt')
   rw[hpl]at hbs;have hstr:=hst ps[k] (List.getElem_mem hlt)
   generalize ps[k]=p at*;obtain⟨b,off,rfl,_,hbz,hc⟩:=hrd.2 (by omega)
   have hcs:=zb9 hc k p hp
   have hbz2:b<wo.heap.size:=Nat.lt_of_lt_of_le hbz hEw.size
   have Hfs:=Lib.hid hfs
   clear hc hp hrd hfs hpl hst;obtain⟨⟨nm,ty,cl,tt,da⟩,d⟩:=p
   dsimp only at*;obtain⟨dA,dc,rfl⟩:=hstr.shape
   obtain⟨c0,c1,c2,c3,c4⟩:=hcs
   rw[←hEw.cell (p:=⟨b,_,none⟩) hbz]at c0
   by_cases hsm:zdz nm n=true
   ·have HN2:=fun W=>znl nm n W hbs.1 hn
    rw[hsm]at HN2;have HN:=Lib.hid HN2
    clear HN2;by_cases hty:ty=kind
    ·subst hty;by_cases hcl:cl=cls
     ·subst hcl;have HF:=Lib.hid (HR.out.trans (Hfs.out.1 (by simp[zgb,hsm])))
      go_wp2_with fail;refine(HN.out _).mono ?_;rintro e w2 ⟨rfl,hE2⟩;have hE2w:=hEw.trans hE2
      rw[←hE2w.cell (p:=⟨b,_,none⟩) hbz]at c1 c2 c3 c4
      have c0':=(hE2.cell (p:=⟨b,_,none⟩) hbz2).trans c0
      obtain⟨hq,hqf,hqz⟩:=zb0 (hE.trans hE2)
      have hbz3:b<w2.heap.size:=Nat.lt_of_lt_of_le hbz2 hE2.size
      have hbne:b<w.heap.size:=hbz
      clear c0;go_wp2_with fail;refine bodyPost_ret (v:=.tuple #[zch ⟨nm,ty,cl,tt,da⟩ (.slice dA da.length dc),.bool true]) ?_ rfl ?_
      ·simp[results,Tryz.results170,go_sem,hq,hqf,hqz]
      ·refine⟨_,by rw[HF.out];rfl,?_,?_⟩
       ·rw[HF.out];exact hstr
       ·exact xt
     ·have HF:=Lib.hid (Hfs.out.2 (by simp[zgb,hcl]))
      have f1:(cl==cls)=false:=by rw[beq_eq_false_iff_ne];exact hcl
      clear hcl;go_wp2_with fail;refine(HN.out _).mono ?_;rintro e w2 ⟨rfl,hE2⟩;have hE2w:=hEw.trans hE2
      rw[←hE2w.cell (p:=⟨b,_,none⟩) hbz]at c1 c2
      go_wp2_with fail;go_roundw
      case rel=>exact⟨k+1,by omega,by go_num,HF.out,hE.trans hE2⟩
      case measure=>simp[intOf];omega
    ·have HF:=Lib.hid (Hfs.out.2 (by simp[zgb,hty]))
     have f1:(ty==kind)=false:=by rw[beq_eq_false_iff_ne];exact hty
     clear hty;go_wp2_with fail;refine(HN.out _).mono ?_;rintro e w2 ⟨rfl,hE2⟩;have hE2w:=hEw.trans hE2
     rw[←hE2w.cell (p:=⟨b,_,none⟩) hbz]at c1
     go_wp2_with fail;go_roundw
     case rel=>exact⟨k+1,by omega,by go_num,HF.out,hE.trans hE2⟩
     case measure=>simp[intOf];omega
   ·have hsm':zdz nm n=false:=by simpa using hsm
    have HN2:=fun W=>znl nm n W hbs.1 hn
    rw[hsm']at HN2;have HN:=Lib.hid HN2
    have HF:=Lib.hid (Hfs.out.2 (by simp[zgb,hsm']))
    clear HN2 hsm;go_wp2_with fail;refine(HN.out _).mono ?_;rintro e w2 ⟨rfl,hE2⟩;go_wp2_with fail;go_roundw
    case rel=>exact⟨k+1,by omega,by go_num,HF.out,hE.trans hE2⟩
    case measure=>simp[intOf];omega
  ·have HF:Hid (R=none):=by
    have:=Hno.out
    rw[List.take_of_length_le (by rw[←Hlen.out];omega)]at this
    rw[HR.out];exact this
   obtain⟨hq,hqf,hqz⟩:=zb0 hE
   go_wp2_with fail;refine bodyPost_ret (v:=.tuple #[zch SetD.zero (.slice none 0 0),.bool false]) (by simp[results,Tryz.results170,go_sem,hq,hqf,hqz,SetD.zero]) rfl ?_
   refine⟨_,by rw[HF.out];rfl,?_,?_⟩
   ·rw[HF.out];exact⟨none,0,rfl,by simp[SetD.zero],by unfold maxLen;omega,Rd.nil _ _ _ _⟩
   ·exact xt
theorem zA1 {a b:List UInt8} (h:a=b):(a==b)=true:=by rw[h];simp
end Go.Proofs.YtdnpmapelmjfpaaGreatDoor
namespace Go.Proofs.YtdnpmapelmjfpaaGreatDoor
open Go.RowKit
set_option maxRecDepth 100000
structure RecD where
 name:List UInt8
 typ:Int
 cls:Int
 ttl:Int
 data:List UInt8
 deriving DecidableEq
def za5 (r:RecD):List Value:=[S r.name,.int .u16 r.typ,.int .u16 r.cls,.int .u32 r.ttl,S r.data]
abbrev zso (r:RecD):Value:=.agg #[S r.name,.int .u16 r.typ,.int .u16 r.cls,.int .u32 r.ttl,S r.data]
def Recs (w:World) (lo:Nat) (v:Value) (l:List RecD):Prop:=∃A c,v=.slice A l.length c∧l.length≤c∧c≤maxLen∧Rd w lo 5 A l.length (l.flatMap za5)
theorem Recs.ext {w w':World} {lo:Nat} {v:Value} {l:List RecD} (h:Recs w lo v l) (hE:Ext w w'):Recs w' lo v l:=by
 obtain⟨A,c,e,h1,h2,h3⟩:=h
 exact⟨A,c,e,h1,h2,h3.ext hE⟩
theorem Recs.lower {w:World} {lo lo':Nat} {v:Value} {l:List RecD} (h:Recs w lo v l) (hl:lo'≤lo):Recs w lo' v l:=by
 obtain⟨A,c,e,h1,h2,h3⟩:=h
 exact⟨A,c,e,h1,h2,h3.lower hl⟩
theorem zdb {w:World} {b off:Nat} {l:List RecD} (hc:∀j u,(l.flatMap za5)[j]? =some u→w.cell? ⟨b,off+j,none⟩=some u) (k:Nat) (p:RecD) (hp:l[k]? =some p):
 w.cell? ⟨b,off+k*5,none⟩=some (S p.name)∧w.cell? ⟨b,off+k*5+1,none⟩=some (.int .u16 p.typ)∧w.cell? ⟨b,off+k*5+2,none⟩=some (.int .u16 p.cls)∧w.cell? ⟨b,off+k*5+3,none⟩=some (.int .u32 p.ttl)∧w.cell? ⟨b,off+k*5+4,none⟩=some (S p.data):=by
 refine⟨?_,?_,?_,?_,?_⟩
 ·exact hc (k*5+0) _ (zbd za5 5 (fun _=>rfl) l k 0 p hp (by omega))
 ·rw[Nat.add_assoc];exact hc (k*5+1) _ (zbd za5 5 (fun _=>rfl) l k 1 p hp (by omega))
 ·rw[Nat.add_assoc];exact hc (k*5+2) _ (zbd za5 5 (fun _=>rfl) l k 2 p hp (by omega))
 ·rw[Nat.add_assoc];exact hc (k*5+3) _ (zbd za5 5 (fun _=>rfl) l k 3 p hp (by omega))
 ·rw[Nat.add_assoc];exact hc (k*5+4) _ (zbd za5 5 (fun _=>rfl) l k 4 p hp (by omega))
def zbc (n:List UInt8) (t c:Int) (s:SetD):Bool:=s.name==n&&(s.typ==t&&s.cls==c)
def atTo (f:SetD→Bool) (l:List SetD):Nat→Int
 |0=> -1
 |k+1=>if f (l.getD k SetD.zero)then(k:Int)else atTo f l k
def zhd (t:Int) (d:List UInt8) (s:SetD):SetD:={s with ttl:=min s.ttl t,data:=zdu s.data d}
def zb4 (x:RecD):Bool:=may x.name&&rmay x.typ x.data
def zev (sets:List SetD) (x:RecD):List SetD:=
 if zb4 x then
  (if atTo (zbc (fold x.name) x.typ x.cls) sets sets.length<0 then sets++[⟨fold x.name,x.typ,x.cls,timeT x.ttl,[rfold x.typ x.data]⟩]
   else sets.modify (atTo (zbc (fold x.name) x.typ x.cls) sets sets.length).toNat (zhd (timeT x.ttl) (rfold x.typ x.data)))
 else sets
def groupTo (l:List RecD) (k:Nat):List SetD:=(l.take k).foldl zev []
theorem zdl (l:List RecD) (k:Nat) (h:k<l.length):groupTo l (k+1)=zev (groupTo l k) l[k]:=by
 unfold groupTo;rw[zax l k h,List.foldl_append];rfl
theorem zuu (f:SetD→Bool) (l:List SetD):∀k,-1≤atTo f l k∧atTo f l k<k
 |0=>by simp[atTo]
 |k+1=>by
  have:=zuu f l k
  simp only[atTo];split<;>omega
def minTo (l:List SetD):Nat→Nat
 |0=>0
 |i+1=>if i=0 then 0 else if zen (l.getD i SetD.zero) (l.getD (minTo l i) SetD.zero)then i else minTo l i
theorem zi7 (l:List SetD):∀i,0<i→minTo l i<i
 |0,h=>absurd h (by omega)
 |i+1,_=>by
  simp only[minTo];split
  ·omega
  ·split
   ·omega
   ·have:=zi7 l i (by omega);omega
def zgl:Nat→List SetD→List SetD
 |0,_=>[]
 |n+1,l=>if l.length=0 then[]else l.getD (minTo l l.length) SetD.zero::zgl n (l.take (minTo l l.length)++l.drop (minTo l l.length+1))
def zap (l:List RecD):List SetD:=zgl l.length (groupTo l l.length)
theorem Own.stored {w:World} {lo:Nat} {e:TypeId} {sz n c g:Nat} {xs:List Value} (h:Own w lo e sz (some ⟨g,0,none⟩) n c xs) (j:Nat) (u:Value) (hj:j<n*sz):Own (w.setCell ⟨g,j,none⟩ u) lo e sz (some ⟨g,0,none⟩) n c (xs.set j u):=by
 refine⟨by rw[List.length_set];exact h.1,?_⟩
 rcases h.2 with⟨h1,_⟩|⟨g',cap,cur,h1,hg,hh,h4,h5,h6,h7⟩
 ·injection h1 with h1;cases h1
 ·injection h1 with h1 _ h3
  injection h1 with h1
  injection h1 with h1 _ _
  subst h1 h3;refine .inr ⟨g,c,cur.setIfInBounds j u,rfl,hg,?_,h4,h5,by simpa using h6,?_⟩
  ·simp[World.setCell,Array.getElem?_modify,hh]
  ·rw[Array.toList_setIfInBounds,←h7,List.take_set]
theorem Own.addr {w:World} {lo:Nat} {e:TypeId} {sz n c:Nat} {A:Option Addr} {xs:List Value} (h:Own w lo e sz A n c xs) (hn:0<n):∃g,A=some ⟨g,0,none⟩∧lo≤g∧g<w.heap.size∧(∀j,w.frozen? ⟨g,j,none⟩=false)∧(∀j u,xs[j]? =some u→w.cell? ⟨g,j,none⟩=some u):=by
 have hr:=h.rd
 rcases h.2 with⟨h1,h2⟩|⟨g,cap,cur,h1,hg,hh,h4,h5,h6,h7⟩
 ·omega
 ·injection h1 with h1 _ h3
  subst h1;obtain⟨b,off,e1,_,hb,hc⟩:=hr.2 hn
  injection e1 with e1
  injection e1 with e1 e2 _
  subst e1 e2;refine⟨g,rfl,hg,hb,fun j=>?_,fun j u hu=>by have:=hc j u hu;rwa[Nat.zero_add]at this⟩
  simp[World.frozen?,hh]
theorem OStrs.set_other {w:World} {lo:Nat} {v:Value} {l:List (List UInt8)} (h:OStrs w lo v l) {p:Addr} (u:Value) (hp:v.ownBlock=none∨v.ownBlock≠some p.block):OStrs (w.setCell p u) lo v l:=by
 obtain⟨A,c,rfl,ho⟩:=h
 refine⟨A,c,rfl,ho.1,?_⟩;rcases ho.2 with h1|⟨g,cap,cur,h1,hg,hh,h4⟩
 ·exact .inl h1
 ·refine .inr ⟨g,cap,cur,h1,hg,(Below.heap_setCell w p u g (fun e=>?_)).trans hh,h4⟩
  injection h1 with h1
  subst h1;rcases hp with hp|hp
  ·simp[Value.ownBlock]at hp
  ·exact hp (by simp[Value.ownBlock,e])
theorem Rd.drew {w:World} {lo size n:Nat} {A:Option Addr} {xs:List Value} (h:Rd w lo size A n xs):Rd w.drew lo size A n xs:=h
theorem zig (s:SetD) (A:Option Addr) (n c:Nat):∀u∈setCells (s,.slice A n c),u.oneCell'=true:=by
 intro u hu;simp only[setCells,List.mem_cons,List.not_mem_nil,or_false]at hu;rcases hu with rfl|rfl|rfl|rfl|rfl<;>rfl
section
variable {P : Program} (w : World)
theorem zel {ops:Array Oper} {o:Oper} {a:Act} {K:Act→World→Prop} {Q:Exit→Act→World→Prop} {E:Prop} (hgd:o.guard=none) (s x:Operand) (t:TypeId)
 (ho:o.op=.call {callee:=.builtin .append,args:= #[s,x],argTypes:= #[t,t]})
 (lo:Nat) (e:TypeId) (i:TypeInfo) (z:Value) (sz bytes:Nat) (ht:P.underlying t=some (.slice e)) (hi:P.info? e=some i) (hz:i.zero=some z)
 (hsize:i.size=sz) (hby:i.bytes=bytes) (hzs:z.cells.size=sz) (hsz:0<sz)
 (A:Option Addr) (n c:Nat) (xs:List Value) (hs:a.eval s=.slice A n c) (hown:Own w lo e sz A n c xs)
 (l2:Nat) (B:Option Addr) (m d:Nat) (news:List Value) (hx:a.eval x=.slice B m d) (hr:Rd w l2 sz B m news) (h1:∀u∈news,u.oneCell'=true)
 (hbytes:(n+m)*bytes≤140737488355328) (hb0:0<bytes) (hbase:lo≤w.heap.size)
 (h:∀A' c' w',Own w' lo e sz A' (n+m) c' (xs++news)→w.grownBy w' (Value.slice A n c).ownBlock→Below lo w w'→
  ((Value.slice A' (n+m) c').ownBlock=(Value.slice A n c).ownBlock∨(Value.slice A' (n+m) c').ownBlock=some w.heap.size)→K (a.put o.dst (.slice A' (n+m) c')) w'):
 if Region.wanted o (yielded ops a.tmps)=true then Oper.wp P o a w K Q else E:=by
 have hw:Region.wanted o (yielded ops a.tmps)=true:=by simp[Region.wanted,hgd]
 rw[if_pos hw];obtain⟨A',c',w',hrun,h2,h3,h4,h5⟩:=zmc (P:=P) w lo t o.type e i z sz bytes ht hi hz hsize hby hzs hsz A n c xs hown l2 B m d news hr h1 hbytes hb0 hbase
 unfold Oper.wp execOp;simp only[ho,resolve,invoke,builtin,Sem.run_bind,Sem.run_pure,Result.andThen_ok,List.map_toArray,List.map_cons,List.map_nil,hs,hx,hrun];exact h A' c' w' h2 h3 h4 h5
end
theorem zi3 (ps:List (SetD×Value)) (k:Nat) (p q:SetD×Value) (j:Nat) (u:Value) (hp:ps[k]? =some p) (hj:j<5) (hq:(setCells p).set j u=setCells q):(ps.flatMap setCells).set (k*5+j) u=(ps.set k q).flatMap setCells:=by
 induction ps generalizing k with
 |nil=>simp at hp
 |cons a ps ih=>
  rcases k with _|k
  ·simp at hp;subst hp;rw[List.set_cons_zero,List.flatMap_cons,List.flatMap_cons,Nat.zero_mul,Nat.zero_add,List.set_append_left _ _ (by simpa[setCells]using hj),hq]
  ·simp only[List.getElem?_cons_succ]at hp;have hl:(setCells a).length=5:=rfl
   rw[List.set_cons_succ,List.flatMap_cons,List.flatMap_cons,List.set_append_right _ _ (by rw[hl,Nat.add_mul];omega),hl,show(k+1)*5+j - 5=k*5+j by rw[Nat.add_mul];omega,ih k hp]
end Go.Proofs.YtdnpmapelmjfpaaGreatDoor
