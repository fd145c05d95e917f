/- Lemmas of this claim. No condition. -/
import Derived.Test.YtdnpmapelmjfpaaGreatDoorLe
import Derived.Deep.RegionLaw
set_option maxHeartbeats 2000000
set_option linter.unusedVariables false
set_option linter.unusedSimpArgs false
set_option maxRecDepth 100000
namespace Go.Proofs.YtdnpmapelmjfpaaGreatDoor
open Go.RowKit
def timeT (t:Int):Int:=if 2147483647<t then 0 else t
theorem zu6 (t:Int) (w:World):Calls Tryz.prog 103 #[.int .u32 t] w fun e w'=>e=.returned (.int .u32 (timeT t))∧w=w':=by
 by_cases h:2147483647<t
 ·rw[show timeT t=0 by unfold timeT;rw[if_pos h]]
  go_enter Tryz.func103,Tryz.ntmps103
  go_wp2
  go_ret;exact⟨rfl,rfl⟩
 ·rw[show timeT t=t by unfold timeT;rw[if_neg h]]
  go_enter Tryz.func103,Tryz.ntmps103
  go_wp2
  go_ret;exact⟨rfl,rfl⟩
def zd7:List (List UInt8)→List UInt8→List (List UInt8)
 |[],s=>[s]
 |x::r,s=>if bl s x then s::x::r else x::zd7 r s
def zdq (l:List (List UInt8)) (s:List UInt8):List (List UInt8):=if l.contains s then l else zd7 l s
theorem zxw (a b:List (List UInt8)) (s:List UInt8) (h:a.any (bl s)=true):zd7 (a++b) s=zd7 a s++b:=by
 induction a with
 |nil=>simp at h
 |cons x a ih=>
  rw[List.cons_append];unfold zd7;by_cases hx:bl s x=true
  ·rw[if_pos hx,if_pos hx];rfl
  ·rw[if_neg hx,if_neg hx,List.cons_append,ih (by simpa[hx]using h)]
theorem zp1 (a b:List (List UInt8)) (s:List UInt8) (h:a.any (bl s)=false):zd7 (a++b) s=a++zd7 b s:=by
 induction a with
 |nil=>rfl
 |cons x a ih=>
  have hx:¬bl s x=true:=by intro e;simp[e]at h
  rw[List.cons_append]
  conv=>lhs;unfold zd7
  rw[if_neg hx,List.cons_append,ih (by simpa[hx]using h)]
theorem zs2 (a:List (List UInt8)) (x s:List UInt8) (h1:a.contains s=false) (h2:x≠s):(a++[x]).contains s=false:=by
 rw[←Bool.not_eq_true,List.contains_iff_mem]at h1 ⊢;intro h;rcases List.mem_append.1 h with h|h
 ·exact h1 h
 ·rw[List.mem_singleton]at h;exact h2 h.symm
theorem zA7 (a:List (List UInt8)) (s:List UInt8) (h:a.any (bl s)=false):zd7 a s=a++[s]:=by
 have:=zp1 a [] s h
 rw[List.append_nil]at this;exact this
def putTo (l:List (List UInt8)) (s:List UInt8) (k:Nat):List (List UInt8):=if(l.take k).any (bl s)then zd7 (l.take k) s else l.take k
theorem zt9 (l:List (List UInt8)) (s:List UInt8):(zd7 l s).length=l.length+1:=by
 induction l with
 |nil=>rfl
 |cons x r ih=>simp only[zd7];split<;>simp[ih]
theorem zrg (l:List (List UInt8)) (s:List UInt8) (k:Nat):(putTo l s k).length≤l.length+1:=by
 unfold putTo;split
 ·rw[zt9];simp;omega
 ·simp;omega
theorem zya (l:List (List UInt8)) (s:List UInt8) (k:Nat) (h:k<l.length) (x:List UInt8) (hx:l[k]=x):
 ((l.take k).any (bl s)=false→bl s x=true→putTo l s (k+1)=putTo l s k++[s]++[x]∧(l.take (k+1)).any (bl s)=true)∧
 ((l.take k).any (bl s)=true→putTo l s (k+1)=putTo l s k++[x]∧(l.take (k+1)).any (bl s)=true)∧
 ((l.take k).any (bl s)=false→bl s x=false→putTo l s (k+1)=putTo l s k++[x]∧(l.take (k+1)).any (bl s)=false):=by
 unfold putTo;rw[zat l k h,hx,List.any_append];refine⟨fun h1 h2=>?_,fun h1=>?_,fun h1 h2=>?_⟩
 ·refine⟨?_,by simp[h2]⟩
  rw[h1];simp only[List.any_cons,List.any_nil,h2,Bool.or_false,Bool.or_true,if_true];rw[zp1 _ _ _ h1];simp[zd7,h2]
 ·refine⟨?_,by simp[h1]⟩
  rw[h1];simp only[Bool.true_or,if_true];rw[zxw _ _ _ h1]
 ·refine⟨?_,by simp[h1,h2]⟩
  rw[h1];simp[h2]
def zEh (lo:Nat) (l:List (List UInt8)) (w:World) (e:Ending) (w':World):Prop:=∃v,e=.returned v∧OStrs w' lo v l∧Ext w w'
theorem zFp (lo:Nat) (v:Value) (l:List (List UInt8)) (s:List UInt8) (w:World) (h:OStrs w lo v l) (ak:lo≤w.heap.size) (hl:l.length≤65536):
 Calls Tryz.prog 104 #[v,S s] w (zEh lo (zdq l s) w):=by
 obtain⟨A,c,rfl,ag⟩:=h
 have ay:=ag.rd
 obtain⟨i0,aH,aF,aC,ax⟩:=info_parts zed
 obtain⟨R,hR⟩:∃R,R=zdq l s:=⟨_,rfl⟩
 rw[←hR];have HR:=Z7 hR
 clear hR;go_enter Tryz.func104,Tryz.ntmps104
 go_wp2
 go_loopw [5,6,7] (fun o dn i wr=>∃(k:Nat) (B:Option Addr) (d:Nat),k≤l.length∧i=.int .i64 k∧dn=.bool ((l.take k).any (bl s))∧o=.slice B (putTo l s k).length d∧Own wr w.heap.size 9 1 B (putTo l s k).length d ((putTo l s k).map S)∧Ext w wr∧(l.take k).contains s=false) (fun _ _ i _=>l.length - (intOf i).toNat)
 case atStart=>exact⟨0,none,0,by omega,rfl,rfl,rfl,Own.nil _ _ _ _,Z5 _,rfl⟩
 case round=>
  obtain⟨k,B,d,hk,rfl,rfl,rfl,ho,hE,bT⟩:=hrel
  obtain⟨wo,rfl⟩:∃wo:World,wo=wr:=⟨_,rfl⟩
  have fN:=Z7 bT
  clear bT;have gG:=hE.size
  by_cases ab:k<l.length
  ·obtain⟨b,off,rfl,_,az,hc⟩:=ay.2 (by omega)
   have fv:=hc k (S l[k]) (by simp[Z3 ab])
   obtain⟨x,hx⟩:∃x,x=l[k]:=⟨_,rfl⟩
   rw[←hx]at fv;have Hx:=Z7 hx
   have bO:=Z7 (zya l s k ab x hx.symm)
   have bi:=zrg l s k
   rw[←hE.cell (p:=⟨b,_,none⟩) az]at fv
   have aU:b<wo.heap.size:=Z1 az hE.size
   clear hc ay hx;generalize putTo l s k=T at*;by_cases hs:x=s
   ·have f1:(x==s)=true:=by rw[hs];simp
    have HF:=Z7 (show R=l by
     rw[HR.out];unfold zdq;rw[if_pos (by rw[List.contains_iff_mem,←hs,Hx.out];exact List.getElem_mem ab)])
    clear hs;generalize (l.take k).any (bl s)=dn at*;go_wp2_with fail;go_ret;exact⟨_,rfl,by rw[HF.out];exact⟨_,c,rfl,ag.ext hE⟩,hE⟩
   ·have f1:(x==s)=false:=by rw[beq_eq_false_iff_ne];exact hs
    have HN:Hid ((l.take (k+1)).contains s=false):=by
     show _=_
     rw[zat l k ab,←Hx.out];exact zs2 _ _ _ fN.out hs
    rcases i4:(l.take k).any (bl s)with _|_
    ·rcases pk:bl s x with _|_
     ·have g1:Op.bytesLess x s=true:=by
       rcases hq:Op.bytesLess x s with _|_
       ·exact absurd (zew x s hq pk) hs
       ·rfl
      have zu:=Z7 (bO.out.2.2 i4 pk)
      clear hs i4 bO;go_wp2_with(
       at_builtin
       refine zad _ rfl (.tmp 35) (.tmp 40) _ rfl w.heap.size 9 i0 _ 1 16 Tryz.underlying77 aH aF aC ax rfl (by omega) B T.length d (T.map S) rfl (ho.ext ((Z5 _).alloc _)) 0 _ 1 1 ([x].map S) rfl (zaw _ _ rfl _ _ 1 1 rfl) (zdg _) (by omega) (by omega) (by simp;omega) ?_
       intro A5 c5 w5 ai bq aG _)
      go_roundw
      case rel=>
       refine⟨k+1,A5,c5,by omega,by go_num,by rw[zu.out.2],by rw[zu.out.1,Z6];rfl,?_,(hE.alloc _).then aG (Z4 _),HN.out⟩
       rw[zu.out.1,Z6,List.map_append];exact ai
      case measure=>simp[intOf];omega
     ·have g1:Op.bytesLess x s=false:=(zmo s x pk).1
      have mL:=Z7 (bO.out.1 i4 pk)
      clear hs i4 bO;go_wp2_with(first
       |(at_builtin
         refine zad _ rfl (.tmp 31) (.tmp 33) _ rfl w.heap.size 9 i0 _ 1 16 Tryz.underlying77 aH aF aC ax rfl (by omega) B T.length d (T.map S) rfl (ho.ext ((Z5 _).alloc _)) 0 _ 1 1 ([s].map S) rfl (zaw _ _ rfl _ _ 1 1 rfl) (zdg _) (by omega) (by omega) (by simp;omega) ?_
         intro A4 c4 w4 cL cY fg _;have aL:Ext w w4:=(hE.alloc _).then fg (Z4 _)
         have EW:=aL.size
         have EX:w4.cell? ⟨b,off+k,none⟩=some (S x):=(fg.cell (p:=⟨b,_,none⟩) az).trans ((World.cell?_alloc_lt _ _ ⟨b,_,none⟩ aU).trans fv))
       |(at_builtin
         refine zad _ rfl (.tmp 35) (.tmp 40) _ rfl w.heap.size 9 i0 _ 1 16 Tryz.underlying77 aH aF aC ax rfl (by omega) A4 (T.length+1) c4 (T.map S++[s].map S) rfl (cL.ext ((Z5 _).alloc _)) 0 _ 1 1 ([x].map S) rfl (zaw _ _ rfl _ _ 1 1 rfl) (zdg _) (by omega) (by omega) (by simp;omega) ?_
         intro A5 c5 w5 ai bq aG _))
      go_roundw
      case rel=>
       refine⟨k+1,A5,c5,by omega,by go_num,by rw[mL.out.2],by rw[mL.out.1,Z6,Z6];rfl,?_,(aL.alloc _).then aG (Z4 _),HN.out⟩
       rw[mL.out.1,Z6,Z6,List.map_append,List.map_append];exact ai
      case measure=>simp[intOf];omega
    ·have zw:=Z7 (bO.out.2.1 i4)
     clear hs i4 bO;go_wp2_with(
      at_builtin
      refine zad _ rfl (.tmp 35) (.tmp 40) _ rfl w.heap.size 9 i0 _ 1 16 Tryz.underlying77 aH aF aC ax rfl (by omega) B T.length d (T.map S) rfl (ho.ext ((Z5 _).alloc _)) 0 _ 1 1 ([x].map S) rfl (zaw _ _ rfl _ _ 1 1 rfl) (zdg _) (by omega) (by omega) (by simp;omega) ?_
      intro A5 c5 w5 ai bq aG _)
     go_roundw
     case rel=>
      refine⟨k+1,A5,c5,by omega,by go_num,by rw[zw.out.2],by rw[zw.out.1,Z6];rfl,?_,(hE.alloc _).then aG (Z4 _),HN.out⟩
      rw[zw.out.1,Z6,List.map_append];exact ai
     case measure=>simp[intOf];omega
  ·have e1:l.take k=l:=List.take_of_length_le (by omega)
   have bi:=zrg l s k
   have HP:=Z7 (show putTo l s k=if l.any (bl s)then zd7 l s else l by unfold putTo;rw[e1])
   rw[e1]at fN ⊢;have HI:=Z7 (show R=zd7 l s by rw[HR.out];unfold zdq;rw[if_neg (by rw[fN.out];simp)])
   clear e1;generalize putTo l s k=T at*;rcases i4:l.any (bl s)with _|_
   ·rw[i4]at HP;have HT:=Z7 (show T=l from HP.out)
    have HJ:=Z7 (zA7 l s i4)
    clear i4;go_wp2_with(
     at_builtin
     refine zad _ rfl (.tmp 44) (.tmp 46) _ rfl w.heap.size 9 i0 _ 1 16 Tryz.underlying77 aH aF aC ax rfl (by omega) B T.length d (T.map S) rfl (ho.ext ((Z5 _).alloc _)) 0 _ 1 1 ([s].map S) rfl (zaw _ _ rfl _ _ 1 1 rfl) (zdg _) (by omega) (by omega) (by simp;omega) ?_
     intro A5 c5 w5 ai bq aG _)
    go_ret;refine⟨_,rfl,?_,(hE.alloc _).then aG (Z4 _)⟩
    rw[HI.out,HJ.out,←HT.out];refine⟨A5,c5,by simp,?_⟩
    rw[Z6,List.map_append];exact ai.lower ak
   ·rw[i4]at HP;have HT:=Z7 (show T=zd7 l s from HP.out)
    clear i4;go_wp2_with fail;go_ret;refine⟨_,rfl,?_,hE⟩;rw[HI.out,←HT.out];exact⟨B,d,rfl,ho.lower ak⟩
def zem (a b:SetD):Bool:=if cmpN a.name b.name=0 then(if a.typ=b.typ then decide (a.cls<b.cls)else decide (a.typ<b.typ))else decide (cmpN a.name b.name<0)
theorem zep {x y:Int} (h:x≠y):(x==y)=false∧(x !=y)=true:=by
 have:(x==y)=false:=by rw[beq_eq_false_iff_ne];exact h
 exact⟨this,by rw[bne,this];rfl⟩
theorem zjr {x y:Int} (h:x=y):(x==y)=true∧(x !=y)=false:=by
 have:(x==y)=true:=by rw[beq_iff_eq];exact h
 exact⟨this,by rw[bne,this];rfl⟩
theorem zai {w w':World} {cs:Array Value} {t:TypeId} (g:Nat) (hg:g=w.heap.size) (hE:Ext (w.alloc (.cells cs t)) w'):(∀j,w'.cell? ⟨g,j,none⟩=cs[j]?)∧(∀j,w'.frozen? ⟨g,j,none⟩=false)∧g<w'.heap.size:=by
 subst hg;exact zap hE
theorem zyq (a b:SetD) (d e':Value) (lo lo':Nat) (w:World) (hd:Strs w lo d a.data) (he:Strs w lo' e' b.data) (ha:a.name.length≤1048576) (hb:b.name.length≤1048576):
 Calls Tryz.prog 105 #[zby a d,zby b e'] w fun e w'=>e=.returned (.bool (zem a b))∧Ext w w':=by
 obtain⟨an,at_,ac,atl,ad⟩:=a
 obtain⟨bn,bt,bc,btl,bd⟩:=b
 dsimp only at*;obtain⟨dA,dc,rfl⟩:=hd.shape
 obtain⟨eA,ec,rfl⟩:=he.shape
 clear hd he;have HC:=Z7 (fun W=>zvg an bn W ha hb)
 obtain⟨R,hR⟩:∃R,R=zem ⟨an,at_,ac,atl,ad⟩ ⟨bn,bt,bc,btl,bd⟩:=⟨_,rfl⟩
 rw[←hR];unfold zem at hR;dsimp only at hR;generalize cmpN an bn=c at*;by_cases h0:c=0
 ·rw[if_pos h0]at hR;subst h0;by_cases h1:at_=bt
  ·rw[if_pos h1]at hR;have HR:=Z7 hR
   obtain⟨f1,f2⟩:=zjr h1
   subst h1;clear hR;go_enter Tryz.func105,Tryz.ntmps105;go_wp2_with fail;refine(HC.out _).mono ?_;rintro e w1 ⟨rfl,ae⟩;obtain⟨hq,bU,bP⟩:=zai (w.heap.size+1) (by simp) ae
   obtain⟨hp,xZ,pm⟩:=zai w.heap.size rfl (((Z5 _).alloc _).trans ae)
   go_wp2_with fail;go_ret;exact⟨zar HR.out.symm,(((Z5 _).alloc _).alloc _).trans ae⟩
  ·rw[if_neg h1]at hR;have HR:=Z7 hR
   obtain⟨f1,f2⟩:=zep h1
   clear hR h1;go_enter Tryz.func105,Tryz.ntmps105;go_wp2_with fail;refine(HC.out _).mono ?_;rintro e w1 ⟨rfl,ae⟩;obtain⟨hq,bU,bP⟩:=zai (w.heap.size+1) (by simp) ae
   obtain⟨hp,xZ,pm⟩:=zai w.heap.size rfl (((Z5 _).alloc _).trans ae)
   go_wp2_with fail;go_ret;exact⟨zar HR.out.symm,(((Z5 _).alloc _).alloc _).trans ae⟩
 ·rw[if_neg h0]at hR;have HR:=Z7 hR
  obtain⟨f1,f2⟩:=zep h0
  clear hR h0;go_enter Tryz.func105,Tryz.ntmps105;go_wp2_with fail;refine(HC.out _).mono ?_;rintro e w1 ⟨rfl,ae⟩;go_wp2_with fail;go_ret;exact⟨zar HR.out.symm,(((Z5 _).alloc _).alloc _).trans ae⟩
def zz9 (lo:Nat) (r:Option SetD) (w0 w:World) (e:Ending) (w':World):Prop:=
 ∃d,e=.returned (.tuple #[zby (r.getD SetD.zero) d,.bool r.isSome])∧Strs w0 lo d (r.getD SetD.zero).data∧Ext w w'
theorem zDu (lo:Nat) (v:Value) (l:List SetD) (n:List UInt8) (kind cls:Int) (w0 w:World) (h:Sets w0 lo v l) (aD:Ext w0 w) (aB:zdr l) (hn:n.length≤1048576):
 Calls Tryz.prog 170 #[v,S n,.int .u16 kind,.int .u16 cls] w (zz9 lo (zbo l n kind cls) w0 w):=by
 obtain⟨ps,A,c,hl,rfl,h1,h2,uu,aK⟩:=h
 have ay:=uu.ext aD
 clear uu;unfold maxLen at h2;have aq:ps.length=l.length:=by rw[←hl];simp
 obtain⟨R,hR⟩:∃R,R=zbo l n kind cls:=⟨_,rfl⟩
 rw[←hR];have HR:=Z7 hR
 have Hl:=Z7 hl
 have cm:=Z7 aq
 clear hR hl aq;go_enter Tryz.func170,Tryz.ntmps170
 go_wp2
 go_loopw [10] (fun i wr=>∃k:Nat,k≤ps.length∧i=.int .i64 k∧(l.take k).find? (zge n kind cls)=none∧Ext (w.alloc (.cells #[S [],.int .u16 0,.int .u16 0,.int .u32 0,.slice none 0 0] 79)) wr) (fun i _=>ps.length - (intOf i).toNat)
 case atStart=>exact⟨0,by omega,rfl,rfl,Z5 _⟩
 case round=>
  obtain⟨k,hk,rfl,bT,hE⟩:=hrel
  obtain⟨wo,rfl⟩:∃wo:World,wo=wr:=⟨_,rfl⟩
  have fN:=Z7 bT
  clear bT;have dB:Ext w wo:=((Z5 w).alloc _).trans hE
  by_cases ab:k<ps.length
  ·have bC:k<l.length:=by rw[←cm.out];exact ab
   have hp:ps[k]? =some ps[k]:=Z3 ab
   have bi:l[k]=ps[k].1:=by simp[←Hl.out]
   have j8:=zr0 (zge n kind cls) l k bC fN.out
   rw[bi]at j8;have j9:=aB l[k] (List.getElem_mem bC)
   rw[bi]at j9;have aZ:=aK ps[k] (List.getElem_mem ab)
   generalize ps[k]=p at*;obtain⟨b,off,rfl,_,az,hc⟩:=ay.2 (by omega)
   have eK:=zb0 hc k p hp
   have aU:b<wo.heap.size:=Z1 az dB.size
   have ni:=Z7 j8
   clear hc hp ay j8 bi aK;obtain⟨⟨nm,ty,cl,tt,da⟩,d⟩:=p
   dsimp only at*;obtain⟨dA,dc,rfl⟩:=aZ.shape
   obtain⟨c0,c1,c2,c3,c4⟩:=eK
   rw[←dB.cell (p:=⟨b,_,none⟩) az]at c0
   by_cases dR:sameN nm n=true
   ·have qC:=fun W=>zl4 nm n W j9.1 hn
    rw[dR]at qC;have HN:=Z7 qC
    clear qC;by_cases bY:ty=kind
    ·subst bY;by_cases dz:cl=cls
     ·subst dz;have HF:=Z7 (HR.out.trans (ni.out.1 (by simp[zge,dR])))
      go_wp2_with fail;refine(HN.out _).mono ?_;rintro e w2 ⟨rfl,ah⟩;have lw:=dB.trans ah
      rw[←lw.cell (p:=⟨b,_,none⟩) az]at c1 c2 c3 c4
      have c0':=(ah.cell (p:=⟨b,_,none⟩) aU).trans c0
      obtain⟨hq,bU,bP⟩:=zap (hE.trans ah)
      have qj:b<w2.heap.size:=Z1 aU ah.size
      have EY:b<w.heap.size:=az
      clear c0;go_wp2_with fail;refine bodyPost_ret (v:=.tuple #[zby ⟨nm,ty,cl,tt,da⟩ (.slice dA da.length dc),.bool true]) ?_ rfl ?_
      ·simp[results,Tryz.results170,go_sem,hq,bU,bP]
      ·refine⟨_,by rw[HF.out];rfl,?_,?_⟩
       ·rw[HF.out];exact aZ
       ·exact xt
     ·have HF:=Z7 (ni.out.2 (by simp[zge,dz]))
      have f1:(cl==cls)=false:=by rw[beq_eq_false_iff_ne];exact dz
      clear dz;go_wp2_with fail;refine(HN.out _).mono ?_;rintro e w2 ⟨rfl,ah⟩;have lw:=dB.trans ah
      rw[←lw.cell (p:=⟨b,_,none⟩) az]at c1 c2
      go_wp2_with fail;go_roundw
      case rel=>exact⟨k+1,by omega,by go_num,HF.out,hE.trans ah⟩
      case measure=>simp[intOf];omega
    ·have HF:=Z7 (ni.out.2 (by simp[zge,bY]))
     have f1:(ty==kind)=false:=by rw[beq_eq_false_iff_ne];exact bY
     clear bY;go_wp2_with fail;refine(HN.out _).mono ?_;rintro e w2 ⟨rfl,ah⟩;have lw:=dB.trans ah
     rw[←lw.cell (p:=⟨b,_,none⟩) az]at c1
     go_wp2_with fail;go_roundw
     case rel=>exact⟨k+1,by omega,by go_num,HF.out,hE.trans ah⟩
     case measure=>simp[intOf];omega
   ·have nj:sameN nm n=false:=by simpa using dR
    have qC:=fun W=>zl4 nm n W j9.1 hn
    rw[nj]at qC;have HN:=Z7 qC
    have HF:=Z7 (ni.out.2 (by simp[zge,nj]))
    clear qC dR;go_wp2_with fail;refine(HN.out _).mono ?_;rintro e w2 ⟨rfl,ah⟩;go_wp2_with fail;go_roundw
    case rel=>exact⟨k+1,by omega,by go_num,HF.out,hE.trans ah⟩
    case measure=>simp[intOf];omega
  ·have HF:Hid (R=none):=by
    have:=fN.out
    rw[List.take_of_length_le (by rw[←cm.out];omega)]at this
    rw[HR.out];exact this
   obtain⟨hq,bU,bP⟩:=zap hE
   go_wp2_with fail;refine bodyPost_ret (v:=.tuple #[zby SetD.zero (.slice none 0 0),.bool false]) (by simp[results,Tryz.results170,go_sem,hq,bU,bP,SetD.zero]) rfl ?_
   refine⟨_,by rw[HF.out];rfl,?_,?_⟩
   ·rw[HF.out];exact⟨none,0,rfl,by simp[SetD.zero],by unfold maxLen;omega,Rd.nil _ _ _ _⟩
   ·exact xt
theorem zue {a b:List UInt8} (h:a=b):(a==b)=true:=by rw[h];simp
theorem zwj {x y:Nat} (h:x≠y):((x:Int)==(y:Int))=false∧((x:Int)!=(y:Int))=true:=zep (by omega)
theorem zvh (a b:SetD) (d e':Value) (lo lo':Nat) (w:World) (hd:Strs w lo d a.data) (he:Strs w lo' e' b.data):
 Calls Tryz.prog 183 #[zby a d,zby b e'] w fun e w'=>e=.returned (.bool (decide (a=b)))∧Ext w w':=by
 obtain⟨an,at_,ac,atl,ad⟩:=a
 obtain⟨bn,bt,bc,btl,bd⟩:=b
 dsimp only at*;obtain⟨dA,dc,rfl,fB,uw,ay⟩:=hd
 obtain⟨eA,ec,rfl,JF,mM,fC⟩:=he
 unfold maxLen at uw mM;obtain⟨R,hR⟩:∃R,R=decide ((⟨an,at_,ac,atl,ad⟩:SetD)=⟨bn,bt,bc,btl,bd⟩):=⟨_,rfl⟩
 rw[←hR];have HR:=Z7 hR
 clear hR;by_cases h1:an≠bn
 ·have HF:=Z7 (show R=false by rw[HR.out];simp[h1])
  have f1:=ziu h1
  clear h1;go_enter Tryz.func183,Tryz.ntmps183;go_wp2_with fail;go_ret;exact⟨zar HF.out.symm,((Z5 _).alloc _).alloc _⟩
 replace h1:=Decidable.not_not.1 h1
 subst h1;by_cases h2:at_≠bt
 ·have HF:=Z7 (show R=false by rw[HR.out];simp[h2])
  obtain⟨f1,f2⟩:=zep h2
  clear h2;go_enter Tryz.func183,Tryz.ntmps183;go_wp2_with fail;go_ret;exact⟨zar HF.out.symm,((Z5 _).alloc _).alloc _⟩
 replace h2:=Decidable.not_not.1 h2
 subst h2;by_cases h3:ac≠bc
 ·have HF:=Z7 (show R=false by rw[HR.out];simp[h3])
  obtain⟨f1,f2⟩:=zep h3
  clear h3;go_enter Tryz.func183,Tryz.ntmps183;go_wp2_with fail;go_ret;exact⟨zar HF.out.symm,((Z5 _).alloc _).alloc _⟩
 replace h3:=Decidable.not_not.1 h3
 subst h3;by_cases h4:atl≠btl
 ·have HF:=Z7 (show R=false by rw[HR.out];simp[h4])
  obtain⟨f1,f2⟩:=zep h4
  clear h4;go_enter Tryz.func183,Tryz.ntmps183;go_wp2_with fail;go_ret;exact⟨zar HF.out.symm,((Z5 _).alloc _).alloc _⟩
 replace h4:=Decidable.not_not.1 h4
 subst h4;by_cases h5:ad.length≠bd.length
 ·have HF:=Z7 (show R=false by rw[HR.out,decide_eq_false_iff_not];intro e;injection e with _ _ _ _ e;exact h5 (by rw[e]))
  obtain⟨f1,f2⟩:=zwj h5
  clear h5;go_enter Tryz.func183,Tryz.ntmps183;go_wp2_with fail;go_ret;exact⟨zar HF.out.symm,((Z5 _).alloc _).alloc _⟩
 replace h5:=Decidable.not_not.1 h5
 have iL:=Z7 (show R=decide (ad=bd)by rw[HR.out];simp)
 rw[←h5]at fC ⊢;have H5:=Z7 h5
 clear h5 HR;go_enter Tryz.func183,Tryz.ntmps183;go_wp2_with fail
 go_loopw [5] (fun i wr=>∃k:Nat,k≤ad.length∧i=.int .i64 k∧ad.take k=bd.take k∧Ext ((w.alloc (.cells #[S an,.int .u16 at_,.int .u16 ac,.int .u32 atl,.slice dA ad.length dc] 79)).alloc (.cells #[S an,.int .u16 at_,.int .u16 ac,.int .u32 atl,.slice eA ad.length ec] 79)) wr) (fun i _=>ad.length - (intOf i).toNat)
 case atStart=>exact⟨0,by omega,rfl,rfl,Z5 _⟩
 case round=>
  obtain⟨k,hk,rfl,hrel,hE⟩:=hrel
  obtain⟨wo,rfl⟩:∃wo:World,wo=wr:=⟨_,rfl⟩
  have HK:=Z7 hrel
  clear hrel;have dB:Ext w wo:=(((Z5 w).alloc _).alloc _).trans hE
  obtain⟨hq,bU,bP⟩:=zai (w.heap.size+1) (by simp) hE
  obtain⟨hp,xZ,pm⟩:=zai w.heap.size rfl (((Z5 _).alloc _).trans hE)
  by_cases ab:k<ad.length
  ·have ce:k<bd.length:=by rw[←H5.out];exact ab
   obtain⟨b1,o1,rfl,_,aC,cD⟩:=ay.2 (by omega)
   obtain⟨b2,o2,rfl,_,ax,ew⟩:=fC.2 (by omega)
   have c1:=cD k (S ad[k]) (by simp[Z3 ab])
   have c2:=ew k (S bd[k]) (by simp[Z3 ce])
   rw[←dB.cell (p:=⟨b1,_,none⟩) aC]at c1
   rw[←dB.cell (p:=⟨b2,_,none⟩) ax]at c2
   obtain⟨x,hx⟩:∃x,x=ad[k]:=⟨_,rfl⟩
   obtain⟨y,hy⟩:∃y,y=bd[k]:=⟨_,rfl⟩
   rw[←hx]at c1;rw[←hy]at c2;have Hx:=Z7 hx
   have Hy:=Z7 hy
   have cz:(k:Int)<(ad.length:Int):=by omega
   have cW:(0:Int)≤(k:Int):=by omega
   clear hx hy cD ew ay fC;by_cases ey:x=y
   ·have f1:=zue ey
    have zx:=Z7 ey
    clear ey;go_wp2_with fail
    go_quiet (fail)
    go_wp2_with fail;go_roundw
    case rel=>
     refine⟨k+1,by omega,by go_num,?_,hE.drewN _⟩
     rw[zat ad k ab,zat bd k ce,HK.out,←Hx.out,←Hy.out,zx.out]
    case measure=>simp[intOf];omega
   ·have f1:=ziu ey
    have HF:=Z7 (show R=false by
     rw[iL.out,decide_eq_false_iff_not];intro e;subst e;exact ey (Hx.out.trans Hy.out.symm))
    clear ey;go_wp2_with fail
    go_quiet (fail)
    go_wp2_with fail;go_ret;exact⟨zar HF.out.symm,dB.drewN _⟩
  ·have HF:=Z7 (show R=true by
    rw[iL.out,decide_eq_true_eq];have:=HK.out
    rw[List.take_of_length_le (by omega),List.take_of_length_le (by rw[←H5.out];omega)]at this
    exact this)
   go_wp2_with fail;go_ret;exact⟨zar HF.out.symm,dB⟩
theorem ztq {ps:List (SetD×Value)} {l:List SetD} (h:ps.map Prod.fst=l) {k:Nat} (hk:k<ps.length) (cU:k<l.length):l[k]=ps[k].1:=by
 subst h;simp
theorem znl (l1 l2:List SetD) (v1 v2:Value) (lo1 lo2:Nat) (w:World) (h1:Sets w lo1 v1 l1) (h2:Sets w lo2 v2 l2):
 Calls Tryz.prog 128 #[v1,v2] w fun e w'=>e=.returned (.bool (decide (l1=l2)))∧Ext w w':=by
 obtain⟨ps,A,c,hl,rfl,h3,h4,ay,aK⟩:=h1
 obtain⟨qs,B,d,hm,rfl,h5,h6,fC,EZ⟩:=h2
 unfold maxLen at h4 h6;have jC:ps.length=l1.length:=by rw[←hl];simp
 have jD:qs.length=l2.length:=by rw[←hm];simp
 obtain⟨R,hR⟩:∃R,R=decide (l1=l2):=⟨_,rfl⟩
 rw[←hR];have HR:=Z7 hR
 clear hR;by_cases fZ:ps.length≠qs.length
 ·have HF:=Z7 (show R=false by rw[HR.out,decide_eq_false_iff_not];intro e;subst e;exact fZ (jC.trans jD.symm))
  obtain⟨f1,f2⟩:=zwj fZ
  clear fZ jC jD hl hm;go_enter Tryz.func128,Tryz.ntmps128;go_wp2_with fail;go_ret;exact⟨zar HF.out.symm,Z5 _⟩
 replace fZ:=Decidable.not_not.1 fZ
 rw[←fZ]at fC ⊢;have ny:=Z7 fZ
 have C0:=Z7 jC
 have qD:=Z7 jD
 have Hl:=Z7 hl
 have Hm:=Z7 hm
 clear fZ jC jD hl hm;go_enter Tryz.func128,Tryz.ntmps128;go_wp2_with fail
 go_loopw [5] (fun i wr=>∃k:Nat,k≤ps.length∧i=.int .i64 k∧l1.take k=l2.take k∧Ext w wr) (fun i _=>ps.length - (intOf i).toNat)
 case atStart=>exact⟨0,by omega,rfl,rfl,Z5 _⟩
 case round=>
  obtain⟨k,hk,rfl,hrel,hE⟩:=hrel
  obtain⟨wo,rfl⟩:∃wo:World,wo=wr:=⟨_,rfl⟩
  have HK:=Z7 hrel
  clear hrel;by_cases ab:k<ps.length
  ·have nz:k<qs.length:=by rw[←ny.out];exact ab
   have qE:k<l1.length:=by rw[←C0.out];exact ab
   have ce:k<l2.length:=by rw[←qD.out];exact nz
   obtain⟨b1,o1,rfl,_,aC,cD⟩:=ay.2 (by omega)
   obtain⟨b2,o2,rfl,_,ax,ew⟩:=fC.2 (by omega)
   have g1:=zb0 cD k ps[k] (Z3 ab)
   have g2:=zb0 ew k qs[k] (Z3 nz)
   have s1:=(aK ps[k] (List.getElem_mem ab)).ext hE
   have s2:=(EZ qs[k] (List.getElem_mem nz)).ext hE
   have E1:=Z7 (ztq Hl.out ab qE)
   have E2:=Z7 (ztq Hm.out nz ce)
   generalize ps[k]=p at*;generalize qs[k]=q at*;obtain⟨⟨pn,pt,pc,ptl,pd⟩,pv⟩:=p
   obtain⟨⟨qn,qt,qc,qtl,qd⟩,qv⟩:=q
   dsimp only at*;obtain⟨pA,pcc,rfl⟩:=s1.shape
   obtain⟨qA,qcc,rfl⟩:=s2.shape
   obtain⟨x0,x1,x2,x3,x4⟩:=g1
   obtain⟨y0,y1,y2,y3,y4⟩:=g2
   rw[←hE.cell (p:=⟨b1,_,none⟩) aC]at x0 x1 x2 x3 x4
   rw[←hE.cell (p:=⟨b2,_,none⟩) ax]at y0 y1 y2 y3 y4
   have cz:(k:Int)<(ps.length:Int):=by omega
   have cW:(0:Int)≤(k:Int):=by omega
   have HC:=Z7 (fun W (hW:Ext wo W)=>zvh ⟨pn,pt,pc,ptl,pd⟩ ⟨qn,qt,qc,qtl,qd⟩ (.slice pA pd.length pcc) (.slice qA qd.length qcc) lo1 lo2 W (s1.ext hW) (s2.ext hW))
   clear cD ew ay fC;by_cases ey:(⟨pn,pt,pc,ptl,pd⟩:SetD)=⟨qn,qt,qc,qtl,qd⟩
   ·have hd:decide ((⟨pn,pt,pc,ptl,pd⟩:SetD)=⟨qn,qt,qc,qtl,qd⟩)=true:=decide_eq_true ey
    rw[hd]at HC;have zx:=Z7 ey
    clear ey hd;go_wp2_with fail
    go_still_tail 8,(by kernel_rfl)
    go_wp2_with fail;refine(HC.out _ ?hW).mono ?_
    case hW=>exact(Z5 wo).drew
    rintro e w2 ⟨rfl,ah⟩;go_wp2_with fail;go_roundw
    case rel=>
     refine⟨k+1,by omega,by go_num,?_,hE.trans (((Z5 wo).drew).trans ah)⟩
     rw[zat l1 k qE,zat l2 k ce,HK.out,E1.out,E2.out,zx.out]
    case measure=>simp[intOf];omega
   ·have hd:decide ((⟨pn,pt,pc,ptl,pd⟩:SetD)=⟨qn,qt,qc,qtl,qd⟩)=false:=decide_eq_false ey
    rw[hd]at HC;have HF:=Z7 (show R=false by
     rw[HR.out,decide_eq_false_iff_not];intro e;subst e;exact ey (E1.out.symm.trans E2.out))
    clear ey hd;go_wp2_with fail
    go_still_tail 8,(by kernel_rfl)
    go_wp2_with fail;refine(HC.out _ ?hW).mono ?_
    case hW=>exact(Z5 wo).drew
    rintro e w2 ⟨rfl,ah⟩;go_wp2_with fail;go_ret;exact⟨zar HF.out.symm,hE.trans (((Z5 wo).drew).trans ah)⟩
  ·have HF:=Z7 (show R=true by
    rw[HR.out,decide_eq_true_eq];have:=HK.out
    rw[List.take_of_length_le (by rw[←C0.out];omega),List.take_of_length_le (by rw[←qD.out,←ny.out];omega)]at this
    exact this)
   go_wp2_with fail;go_ret;exact⟨zar HF.out.symm,hE⟩
structure RecD where
 name:List UInt8
 typ:Int
 cls:Int
 ttl:Int
 data:List UInt8
 deriving DecidableEq
def zaq (r:RecD):List Value:=[S r.name,.int .u16 r.typ,.int .u16 r.cls,.int .u32 r.ttl,S r.data]
abbrev zu0 (r:RecD):Value:=.agg #[S r.name,.int .u16 r.typ,.int .u16 r.cls,.int .u32 r.ttl,S r.data]
def Recs (w:World) (lo:Nat) (v:Value) (l:List RecD):Prop:=∃A c,v=.slice A l.length c∧l.length≤c∧c≤maxLen∧Rd w lo 5 A l.length (l.flatMap zaq)
theorem Recs.ext {w w':World} {lo:Nat} {v:Value} {l:List RecD} (h:Recs w lo v l) (hE:Ext w w'):Recs w' lo v l:=by
 obtain⟨A,c,e,h1,h2,h3⟩:=h
 exact⟨A,c,e,h1,h2,h3.ext hE⟩
theorem Recs.lower {w:World} {lo lo':Nat} {v:Value} {l:List RecD} (h:Recs w lo v l) (hl:lo'≤lo):Recs w lo' v l:=by
 obtain⟨A,c,e,h1,h2,h3⟩:=h
 exact⟨A,c,e,h1,h2,h3.lower hl⟩
theorem zfe {w:World} {b off:Nat} {l:List RecD} (hc:∀j u,(l.flatMap zaq)[j]? =some u→w.cell? ⟨b,off+j,none⟩=some u) (k:Nat) (p:RecD) (hp:l[k]? =some p):
 w.cell? ⟨b,off+k*5,none⟩=some (S p.name)∧w.cell? ⟨b,off+k*5+1,none⟩=some (.int .u16 p.typ)∧w.cell? ⟨b,off+k*5+2,none⟩=some (.int .u16 p.cls)∧w.cell? ⟨b,off+k*5+3,none⟩=some (.int .u32 p.ttl)∧w.cell? ⟨b,off+k*5+4,none⟩=some (S p.data):=by
 refine⟨?_,?_,?_,?_,?_⟩
 ·exact hc (k*5+0) _ (zb7 zaq 5 (fun _=>rfl) l k 0 p hp (by omega))
 ·rw[Nat.add_assoc];exact hc (k*5+1) _ (zb7 zaq 5 (fun _=>rfl) l k 1 p hp (by omega))
 ·rw[Nat.add_assoc];exact hc (k*5+2) _ (zb7 zaq 5 (fun _=>rfl) l k 2 p hp (by omega))
 ·rw[Nat.add_assoc];exact hc (k*5+3) _ (zb7 zaq 5 (fun _=>rfl) l k 3 p hp (by omega))
 ·rw[Nat.add_assoc];exact hc (k*5+4) _ (zb7 zaq 5 (fun _=>rfl) l k 4 p hp (by omega))
def zb5 (n:List UInt8) (t c:Int) (s:SetD):Bool:=s.name==n&&(s.typ==t&&s.cls==c)
def atTo (f:SetD→Bool) (l:List SetD):Nat→Int
 |0=> -1
 |k+1=>if f (l.getD k SetD.zero)then(k:Int)else atTo f l k
def zhm (t:Int) (d:List UInt8) (s:SetD):SetD:={s with ttl:=min s.ttl t,data:=zdq s.data d}
def zcm (x:RecD):Bool:=may x.name&&rmay x.typ x.data
def zev (sets:List SetD) (x:RecD):List SetD:=
 if zcm x then
  (if atTo (zb5 (fold x.name) x.typ x.cls) sets sets.length<0 then sets++[⟨fold x.name,x.typ,x.cls,timeT x.ttl,[rfold x.typ x.data]⟩]
   else sets.modify (atTo (zb5 (fold x.name) x.typ x.cls) sets sets.length).toNat (zhm (timeT x.ttl) (rfold x.typ x.data)))
 else sets
def groupTo (l:List RecD) (k:Nat):List SetD:=(l.take k).foldl zev []
theorem ze5 (l:List RecD) (k:Nat) (h:k<l.length):groupTo l (k+1)=zev (groupTo l k) l[k]:=by
 unfold groupTo;rw[zat l k h,List.foldl_append];rfl
theorem zw1 (f:SetD→Bool) (l:List SetD):∀k,-1≤atTo f l k∧atTo f l k<k
 |0=>by simp[atTo]
 |k+1=>by
  have:=zw1 f l k
  simp only[atTo];split<;>omega
def minTo (l:List SetD):Nat→Nat
 |0=>0
 |i+1=>if i=0 then 0 else if zem (l.getD i SetD.zero) (l.getD (minTo l i) SetD.zero)then i else minTo l i
theorem zil (l:List SetD):∀i,0<i→minTo l i<i
 |0,h=>absurd h (by omega)
 |i+1,_=>by
  simp only[minTo];split
  ·omega
  ·split
   ·omega
   ·have:=zil l i (by omega);omega
def zgm:Nat→List SetD→List SetD
 |0,_=>[]
 |n+1,l=>if l.length=0 then[]else l.getD (minTo l l.length) SetD.zero::zgm n (l.take (minTo l l.length)++l.drop (minTo l l.length+1))
def groupR (l:List RecD):List SetD:=zgm l.length (groupTo l l.length)
theorem Own.stored {w:World} {lo:Nat} {e:TypeId} {sz n c g:Nat} {xs:List Value} (h:Own w lo e sz (some ⟨g,0,none⟩) n c xs) (j:Nat) (u:Value) (hj:j<n*sz):Own (w.setCell ⟨g,j,none⟩ u) lo e sz (some ⟨g,0,none⟩) n c (xs.set j u):=by
 refine⟨by rw[List.length_set];exact h.1,?_⟩
 rcases h.2 with⟨h1,_⟩|⟨g',cap,cur,h1,hg,hh,h4,h5,h6,h7⟩
 ·injection h1 with h1;cases h1
 ·injection h1 with h1 _ h3
  injection h1 with h1
  injection h1 with h1 _ _
  subst h1 h3;refine .inr ⟨g,c,cur.setIfInBounds j u,rfl,hg,?_,h4,h5,by simpa using h6,?_⟩
  ·simp[World.setCell,Array.getElem?_modify,hh]
  ·rw[Array.toList_setIfInBounds,←h7,List.take_set]
theorem Own.addr {w:World} {lo:Nat} {e:TypeId} {sz n c:Nat} {A:Option Addr} {xs:List Value} (h:Own w lo e sz A n c xs) (hn:0<n):∃g,A=some ⟨g,0,none⟩∧lo≤g∧g<w.heap.size∧(∀j,w.frozen? ⟨g,j,none⟩=false)∧(∀j u,xs[j]? =some u→w.cell? ⟨g,j,none⟩=some u):=by
 have hr:=h.rd
 rcases h.2 with⟨h1,h2⟩|⟨g,cap,cur,h1,hg,hh,h4,h5,h6,h7⟩
 ·omega
 ·injection h1 with h1 _ h3
  subst h1;obtain⟨b,off,e1,_,hb,hc⟩:=hr.2 hn
  injection e1 with e1
  injection e1 with e1 e2 _
  subst e1 e2;refine⟨g,rfl,hg,hb,fun j=>?_,fun j u hu=>by have:=hc j u hu;rwa[Nat.zero_add]at this⟩
  simp[World.frozen?,hh]
theorem OStrs.set_other {w:World} {lo:Nat} {v:Value} {l:List (List UInt8)} (h:OStrs w lo v l) {p:Addr} (u:Value) (hp:v.ownBlock=none∨v.ownBlock≠some p.block):OStrs (w.setCell p u) lo v l:=by
 obtain⟨A,c,rfl,ho⟩:=h
 refine⟨A,c,rfl,ho.1,?_⟩;rcases ho.2 with h1|⟨g,cap,cur,h1,hg,hh,h4⟩
 ·exact .inl h1
 ·refine .inr ⟨g,cap,cur,h1,hg,(Below.heap_setCell w p u g (fun e=>?_)).trans hh,h4⟩
  injection h1 with h1
  subst h1;rcases hp with hp|hp
  ·simp[Value.ownBlock]at hp
  ·exact hp (by simp[Value.ownBlock,e])
theorem Rd.drew {w:World} {lo size n:Nat} {A:Option Addr} {xs:List Value} (h:Rd w lo size A n xs):Rd w.drew lo size A n xs:=h
theorem zg0 (s:SetD) (A:Option Addr) (n c:Nat):∀u∈setCells (s,.slice A n c),u.oneCell'=true:=by
 intro u hu;simp only[setCells,List.mem_cons,List.not_mem_nil,or_false]at hu;rcases hu with rfl|rfl|rfl|rfl|rfl<;>rfl
section
variable {P : Program} (w : World)
theorem zl7 {ops:Array Oper} {o:Oper} {a:Act} {K:Act→World→Prop} {Q:Exit→Act→World→Prop} {E:Prop} (gC:o.guard=none) (s x:Operand) (t:TypeId)
 (ho:o.op=.call {callee:=.builtin .append,args:= #[s,x],argTypes:= #[t,t]})
 (lo:Nat) (e:TypeId) (i:TypeInfo) (z:Value) (sz bytes:Nat) (ht:P.underlying t=some (.slice e)) (hi:P.info? e=some i) (hz:i.zero=some z)
 (a8:i.size=sz) (bw:i.bytes=bytes) (dM:z.cells.size=sz) (bH:0<sz)
 (A:Option Addr) (n c:Nat) (xs:List Value) (hs:a.eval s=.slice A n c) (ag:Own w lo e sz A n c xs)
 (l2:Nat) (B:Option Addr) (m d:Nat) (news:List Value) (hx:a.eval x=.slice B m d) (hr:Rd w l2 sz B m news) (h1:∀u∈news,u.oneCell'=true)
 (aY:(n+m)*bytes≤140737488355328) (gL:0<bytes) (br:lo≤w.heap.size)
 (h:∀A' c' w',Own w' lo e sz A' (n+m) c' (xs++news)→w.grownBy w' (Value.slice A n c).ownBlock→Below lo w w'→
  ((Value.slice A' (n+m) c').ownBlock=(Value.slice A n c).ownBlock∨(Value.slice A' (n+m) c').ownBlock=some w.heap.size)→K (a.put o.dst (.slice A' (n+m) c')) w'):
 if Region.wanted o (yielded ops a.tmps)=true then Oper.wp P o a w K Q else E:=by
 have hw:Region.wanted o (yielded ops a.tmps)=true:=by simp[Region.wanted,gC]
 rw[if_pos hw];obtain⟨A',c',w',cC,h2,h3,h4,h5⟩:=zmz (P:=P) w lo t o.type e i z sz bytes ht hi hz a8 bw dM bH A n c xs ag l2 B m d news hr h1 aY gL br
 unfold Oper.wp execOp;simp only[ho,resolve,invoke,builtin,Sem.run_bind,Sem.run_pure,Result.andThen_ok,List.map_toArray,List.map_cons,List.map_nil,hs,hx,cC];exact h A' c' w' h2 h3 h4 h5
end
theorem zdx (ps:List (SetD×Value)) (k:Nat) (p q:SetD×Value) (j:Nat) (u:Value) (hp:ps[k]? =some p) (hj:j<5) (hq:(setCells p).set j u=setCells q):(ps.flatMap setCells).set (k*5+j) u=(ps.set k q).flatMap setCells:=by
 induction ps generalizing k with
 |nil=>simp at hp
 |cons a ps ih=>
  rcases k with _|k
  ·simp at hp;subst hp;rw[List.set_cons_zero,List.flatMap_cons,List.flatMap_cons,Nat.zero_mul,Nat.zero_add,List.set_append_left _ _ (by simpa[setCells]using hj),hq]
  ·simp only[List.getElem?_cons_succ]at hp;have hl:(setCells a).length=5:=rfl
   rw[List.set_cons_succ,List.flatMap_cons,List.flatMap_cons,List.set_append_right _ _ (by rw[hl,Nat.add_mul];omega),hl,show(k+1)*5+j - 5=k*5+j by rw[Nat.add_mul];omega,ih k hp]
end Go.Proofs.YtdnpmapelmjfpaaGreatDoor
