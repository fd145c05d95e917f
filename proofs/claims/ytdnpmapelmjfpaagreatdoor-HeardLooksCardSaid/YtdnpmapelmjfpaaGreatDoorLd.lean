/- Lemmas of this claim. No condition. -/
import Derived.Test.YtdnpmapelmjfpaaGreatDoorLc
set_option maxHeartbeats 4000000
set_option linter.unusedVariables false
set_option linter.unusedSimpArgs false
set_option maxRecDepth 100000
namespace Go.Proofs.YtdnpmapelmjfpaaGreatDoor
open Go.RowKit
structure SetD where
 name:List UInt8
 typ:Int
 cls:Int
 ttl:Int
 data:List (List UInt8)
 deriving DecidableEq
def SetD.zero:SetD:=⟨[],0,0,0,[]⟩
def setCells (p:SetD×Value):List Value:=[S p.1.name,.int .u16 p.1.typ,.int .u16 p.1.cls,.int .u32 p.1.ttl,p.2]
abbrev zby (s:SetD) (d:Value):Value:=.agg #[S s.name,.int .u16 s.typ,.int .u16 s.cls,.int .u32 s.ttl,d]
def Sets (w:World) (lo:Nat) (v:Value) (l:List SetD):Prop:=
 ∃(ps:List (SetD×Value)) (A:Option Addr) (c:Nat),ps.map Prod.fst=l∧v=.slice A ps.length c∧ps.length≤c∧c≤maxLen∧Rd w lo 5 A ps.length (ps.flatMap setCells)∧∀p∈ps,Strs w lo p.2 p.1.data
def OSets (w:World) (lo:Nat) (v:Value) (l:List SetD):Prop:=
 ∃(ps:List (SetD×Value)) (A:Option Addr) (c:Nat),ps.map Prod.fst=l∧v=.slice A ps.length c∧Own w lo 79 5 A ps.length c (ps.flatMap setCells)∧∀p∈ps,OStrs w lo p.2 p.1.data
theorem Sets.ext {w w':World} {lo:Nat} {v:Value} {l:List SetD} (h:Sets w lo v l) (hE:Ext w w'):Sets w' lo v l:=by
 obtain⟨ps,A,c,h1,h2,h3,h4,h5,h6⟩:=h
 exact⟨ps,A,c,h1,h2,h3,h4,h5.ext hE,fun p hp=>(h6 p hp).ext hE⟩
theorem OSets.ext {w w':World} {lo:Nat} {v:Value} {l:List SetD} (h:OSets w lo v l) (hE:Ext w w'):OSets w' lo v l:=by
 obtain⟨ps,A,c,h1,h2,h3,h4⟩:=h
 exact⟨ps,A,c,h1,h2,h3.ext hE,fun p hp=>(h4 p hp).ext hE⟩
theorem OSets.sets {w:World} {lo:Nat} {v:Value} {l:List SetD} (h:OSets w lo v l):Sets w lo v l:=by
 obtain⟨ps,A,c,h1,h2,h3,h4⟩:=h
 exact⟨ps,A,c,h1,h2,h3.cap.1,h3.cap.2,h3.rd,fun p hp=>(h4 p hp).strs⟩
theorem OSets.lower {w:World} {lo lo':Nat} {v:Value} {l:List SetD} (h:OSets w lo v l) (hl:lo'≤lo):OSets w lo' v l:=by
 obtain⟨ps,A,c,h1,h2,h3,h4⟩:=h
 exact⟨ps,A,c,h1,h2,h3.lower hl,fun p hp=>(h4 p hp).lower hl⟩
theorem Strs.lower {w:World} {lo lo':Nat} {v:Value} {l:List (List UInt8)} (h:Strs w lo v l) (hl:lo'≤lo):Strs w lo' v l:=by
 obtain⟨A,c,e,h1,h2,h3⟩:=h
 exact⟨A,c,e,h1,h2,h3.lower hl⟩
theorem Sets.lower {w:World} {lo lo':Nat} {v:Value} {l:List SetD} (h:Sets w lo v l) (hl:lo'≤lo):Sets w lo' v l:=by
 obtain⟨ps,A,c,h1,h2,h3,h4,h5,h6⟩:=h
 exact⟨ps,A,c,h1,h2,h3,h4,h5.lower hl,fun p hp=>(h6 p hp).lower hl⟩
def zEe (l:List (List UInt8)) (s:List UInt8) (w:World) (e:Ending) (w':World):Prop:=(∃n:Int,e=.returned (.int .i64 n)∧decide (0≤n)=l.contains s)∧w=w'
theorem zu9 (lo:Nat) (v:Value) (l:List (List UInt8)) (s:List UInt8) (w:World) (h:Strs w lo v l):
 Calls Tryz.prog 212 #[v,S s] w (zEe l s w):=by
 obtain⟨A,c,rfl,h1,h2,ay⟩:=h
 unfold maxLen at h2;go_enter Tryz.func212,Tryz.ntmps212
 go_wp2
 go_loop [5,8] (fun _ i=>∃k:Nat,k≤l.length∧i=.int .i64 k∧(l.take k).contains s=false) (fun _ i=>l.length - (intOf i).toNat)
 case atStart=>exact⟨0,by omega,rfl,rfl⟩
 case round=>
  obtain⟨k,hk,rfl,bT⟩:=hrel
  have fN:=Z7 bT
  clear bT;by_cases ab:k<l.length
  ·obtain⟨b,off,rfl,_,_,hc⟩:=ay.2 (by omega)
   have fv:=hc k (S l[k]) (by simp[Z3 ab])
   obtain⟨x,hx⟩:∃x,x=l[k]:=⟨_,rfl⟩
   rw[←hx]at fv;have Hx:=Z7 hx
   clear hc ay hx;by_cases hs:s=x
   ·have f1:(s==x)=true:=by rw[hs];simp
    have Hs:=Z7 hs
    clear hs
    go_wp2
    go_ret;refine⟨⟨k,rfl,?_⟩,rfl⟩;have:l.contains s=true:=by rw[List.contains_iff_mem,Hs.out,Hx.out];exact List.getElem_mem ab
    rw[this];simp
   ·have f1:(s==x)=false:=by rw[beq_eq_false_iff_ne];exact hs
    have Hs:=Z7 hs
    clear hs
    go_wp2
    go_round
    case rel=>
     refine⟨k+1,by omega,by go_num,?_⟩
     rw[zat l k ab];have h3:=fN.out
     rw[←Hx.out];simp[List.contains_eq_any_beq]at h3 ⊢;refine⟨h3,?_⟩;exact Hs.out
    case measure=>simp[intOf];omega
  ·have e1:l.take k=l:=List.take_of_length_le (by omega)
   rw[e1]at fN;clear e1
   go_wp2
   go_ret;exact⟨⟨-1,rfl,by rw[fN.out];rfl⟩,rfl⟩
theorem znm (lo:Nat) (v:Value) (l:List (List UInt8)) (s:List UInt8) (w:World) (h:Strs w lo v l):
 Calls Tryz.prog 149 #[v,S s] w fun e w'=>e=.returned (.bool (l.contains s))∧w=w':=by
 have Hh:=Z7 (zu9 lo v l s w h)
 clear h;go_enter Tryz.func149,Tryz.ntmps149;go_wp2_with(go_at_call 212;refine Hh.out.mono ?_;rintro e w' ⟨⟨n,rfl,hn⟩,rfl⟩;have Hn:=Z7 hn;clear hn)
 go_ret;exact⟨zar Hn.out,rfl⟩
theorem ztp (w:World) (e:TypeId) (sz:Nat):Own (w.alloc (.cells #[] e)) w.heap.size e sz (some ⟨w.heap.size,0,none⟩) 0 0 []:=World.ownsRow_made w #[] 0 (Z4 _) (by unfold maxLen;omega) (by simp)
def zz8 (l:List (List UInt8)) (w:World) (e:Ending) (w':World):Prop:=∃v,e=.returned v∧OStrs w' w.heap.size v l∧Ext w w'
theorem zoh (lo:Nat) (v:Value) (l:List (List UInt8)) (w:World) (h:Strs w lo v l) (hb:l.length≤65536):
 Calls Tryz.prog 153 #[v] w (zz8 l w):=by
 obtain⟨A,c,rfl,h1,h2,ay⟩:=h
 have hn:=fun W a n c=>Lib.run_eql_slice_nil (P:=Tryz.prog) W 77 9 a n c 0 0 Tryz.underlying77
 obtain⟨i0,aH,aF,aC,ax⟩:=info_parts zed
 rcases A with _|a
 ·have h0:l.length=0:=by
   rcases Nat.eq_zero_or_pos l.length with h|h
   ·exact h
   ·obtain⟨_,_,e,_⟩:=ay.2 h;cases e
  have:l=[]:=List.eq_nil_of_length_eq_zero h0
  subst this;go_enter Tryz.func153,Tryz.ntmps153;go_wp2_with fail;go_ret;exact⟨_,rfl,⟨none,0,rfl,Own.nil _ _ _ _⟩,Z5 _⟩
 ·go_enter Tryz.func153,Tryz.ntmps153;go_wp2_with(
   at_builtin
   refine zad _ rfl (.tmp 5) (.tmp 6) _ rfl w.heap.size 9 i0 _ 1 16 Tryz.underlying77 aH aF aC ax rfl (by omega) _ 0 0 [] rfl (ztp w _ _) lo (some a) l.length c (l.map S) rfl (ay.ext ((Z5 _).alloc _)) (zdg _) (by omega) (by omega) (by simp) ?_
   intro A5 c5 w5 ai bq aG _)
  go_ret;rw[Nat.zero_add]at ai;exact⟨_,rfl,⟨A5,c5,rfl,ai⟩,((Z5 _).alloc _).then aG (Z4 _)⟩
theorem zm8 (kind:Int) (data:List UInt8) (w:World) (hg:Laid w) (hl:data.length≤1048576):
 Calls Tryz.prog 40 #[.int .u16 kind,S data] w fun e w'=>e=.returned (.bool (rmay kind data))∧Ext w w':=by
 have Hs:=Z7 (zh1 kind data w hg hl)
 unfold zh9 at Hs;have hm:rmay kind data=(zbk kind data).isSome:=rfl
 rw[hm];clear hm;generalize (zbk kind data).isSome=ok at*;generalize partsOf kind data=l at*;go_enter Tryz.func40,Tryz.ntmps40;go_wp2_with fail;refine Hs.out.mono ?_;rintro e w1 ⟨v,rfl,⟨A,c,rfl,ag⟩,ae⟩;go_wp2_with fail;go_ret;exact⟨rfl,ae⟩
def zjt (p:Pc):List UInt8:=if p.nm then fold p.text else p.text
def foldTo (l:List Pc) (k:Nat):List UInt8:=(l.take k).flatMap zjt
theorem zn6 (l:List Pc) (k:Nat) (h:k<l.length):foldTo l (k+1)=foldTo l k++zjt l[k]:=by
 unfold foldTo;rw[zat l k h,List.flatMap_append];simp
theorem zxm (p:Pc):(zjt p).length≤p.text.length:=by
 unfold zjt;split
 ·unfold fold;split
  ·rw[zbg];omega
  ·simp
 ·omega
theorem zow (l:List Pc) (B:Nat) (hB:∀p∈l,p.text.length≤B):∀k,k≤l.length→(foldTo l k).length≤k*B
 |0,_=>by simp[foldTo]
 |k+1,h=>by
  rw[zn6 l k (by omega),Z6,Nat.add_mul]
  have:=zow l B hB k (by omega)
  have:=zxm l[k]
  have:=hB l[k] (List.getElem_mem (by omega))
  omega
theorem zyd (kind:Int) (data:List UInt8) (w:World) (hg:Laid w) (hl:data.length≤1048576):
 Calls Tryz.prog 80 #[.int .u16 kind,S data] w fun e w'=>e=.returned (S (rfold kind data))∧Ext w w':=by
 have Hs:=Z7 (zh1 kind data w hg hl)
 have aB:=zhw kind data
 have hR:rfold kind data=foldTo (partsOf kind data) (partsOf kind data).length:=by unfold rfold foldTo;rw[List.take_length];rfl
 rw[hR];clear hR;unfold zh9 at Hs;generalize (zbk kind data).isSome=ok at*;generalize partsOf kind data=l at*;obtain⟨i0,aH,aF,aC,ax⟩:=info_parts zfa
 go_enter Tryz.func80,Tryz.ntmps80;go_wp2_with fail;refine Hs.out.mono ?_;rintro e w1 ⟨v,rfl,⟨A,c,rfl,ag⟩,ae⟩;have ay:=ag.rd
 have qi:=aB.1
 have CQ:=zow l (data.length+255) aB.2
 have cj:=aB.2
 clear ag aB Hs;go_wp2_with fail
 go_loopw [7,18] (fun o i wr=>∃(k:Nat) (B:Option Addr) (d:Nat),k≤l.length∧i=.int .i64 k∧o=.slice B (foldTo l k).length d∧Own wr w1.heap.size 5 1 B (foldTo l k).length d ((foldTo l k).map U8)∧Ext w1 wr) (fun _ i _=>l.length - (intOf i).toNat)
 case atStart=>exact⟨0,none,0,by omega,rfl,rfl,Own.nil _ _ _ _,Z5 _⟩
 case round=>
  obtain⟨k,B,d,hk,rfl,rfl,ag,hE⟩:=hrel
  obtain⟨wo,rfl⟩:∃wo:World,wo=wr:=⟨_,rfl⟩
  by_cases ab:k<l.length
  ·have hp:l[k]? =some l[k]:=Z3 ab
   have bO:=Z7 (zn6 l k ab)
   have cv:=CQ k hk
   have lk:=cj l[k] (List.getElem_mem ab)
   generalize l[k]=p at*;generalize foldTo l k=T at*;obtain⟨b,off,rfl,_,az,hc⟩:=ay.2 (by omega)
   obtain⟨h0,iD,h2⟩:=zhi (lo:=0) (n:=0) hc k p hp
   rw[←hE.cell (p:=⟨b,_,none⟩) az]at h0 iD h2
   have aU:b<wo.heap.size:=Z1 az hE.size
   have hT:T.length≤4194304:=by
    have:k*(data.length+255)≤3*(1048576+255):=Nat.mul_le_mul (by omega) (by omega)
    omega
   clear hc hp ay CQ cj cv;obtain⟨pt,pn,px⟩:=p
   dsimp only at*;rcases pn with _|_
   ·have HF:Hid (zjt ⟨pt,false,px⟩=pt):=rfl
    go_wp2_with(
     at_builtin
     refine zbh _ rfl (.tmp 29) (.tmp 31) _ _ rfl w1.heap.size 5 i0 Tryz.underlying110 Tryz.underlying9 aH aF aC ax B T.length d (T.map U8) rfl (ag.ext ((Z5 _).alloc _)) pt rfl (by omega) (by have:=hE.size;simp;omega) ?_
     intro A5 c5 w5 ai bq aG)
    go_roundw
    case rel=>
     refine⟨k+1,A5,c5,by omega,by go_num,by rw[bO.out,HF.out,Z6],?_,(hE.alloc _).then aG (Z4 _)⟩
     rw[bO.out,HF.out,Z6,List.map_append];exact ai
    case measure=>simp[intOf];omega
   ·have HF:Hid (zjt ⟨pt,true,px⟩=fold pt):=rfl
    have fw:(fold pt).length≤255:=by
     unfold fold;split
     ·rename_i h;rw[zbg];exact zek h
     ·simp
    have HC:=Z7 (fun W=>zhg pt W (by unfold maxLen;omega))
    generalize fold pt=fp at*;go_wp2_with(first
     |(go_at_call 19;refine(HC.out _).mono ?_;rintro e w2 ⟨rfl,ah⟩)
     |(at_builtin
       refine zbh _ rfl (.tmp 24) (.tmp 27) _ _ rfl w1.heap.size 5 i0 Tryz.underlying110 Tryz.underlying9 aH aF aC ax B T.length d (T.map U8) rfl ((ag.ext ((Z5 _).alloc _)).ext ah) fp rfl (by omega) (by have:=((hE.alloc _).trans ah).size;omega) ?_
       intro A5 c5 w5 ai bq aG))
    go_roundw
    case rel=>
     refine⟨k+1,A5,c5,by omega,by go_num,by rw[bO.out,HF.out,Z6],?_,((hE.alloc _).trans ah).then aG (Z4 _)⟩
     rw[bO.out,HF.out,Z6,List.map_append];exact ai
    case measure=>simp[intOf];omega
  ·have e1:k=l.length:=by omega
   subst e1;have dD:=zeb (w:=wo) d ag.rd
   go_wp2_with fail;go_ret;exact⟨rfl,ae.trans hE⟩
def zge (n:List UInt8) (kind cls:Int) (s:SetD):Bool:=s.typ==kind&&s.cls==cls&&sameN s.name n
def zbo (l:List SetD) (n:List UInt8) (kind cls:Int):Option SetD:=l.find? (zge n kind cls)
def zC3 (r:Option SetD) (w:World) (e:Ending) (w':World):Prop:=
 ∃d,e=.returned (.tuple #[zby (r.getD SetD.zero) d,.bool r.isSome])∧OStrs w' w.heap.size d (r.getD SetD.zero).data∧Ext w w'
theorem zb0 {w:World} {b off:Nat} {ps:List (SetD×Value)} (hc:∀j u,(ps.flatMap setCells)[j]? =some u→w.cell? ⟨b,off+j,none⟩=some u) (k:Nat) (p:SetD×Value) (hp:ps[k]? =some p):
 w.cell? ⟨b,off+k*5,none⟩=some (S p.1.name)∧w.cell? ⟨b,off+k*5+1,none⟩=some (.int .u16 p.1.typ)∧w.cell? ⟨b,off+k*5+2,none⟩=some (.int .u16 p.1.cls)∧w.cell? ⟨b,off+k*5+3,none⟩=some (.int .u32 p.1.ttl)∧w.cell? ⟨b,off+k*5+4,none⟩=some p.2:=by
 refine⟨?_,?_,?_,?_,?_⟩
 ·exact hc (k*5+0) _ (zb7 setCells 5 (fun _=>rfl) ps k 0 p hp (by omega))
 ·rw[Nat.add_assoc];exact hc (k*5+1) _ (zb7 setCells 5 (fun _=>rfl) ps k 1 p hp (by omega))
 ·rw[Nat.add_assoc];exact hc (k*5+2) _ (zb7 setCells 5 (fun _=>rfl) ps k 2 p hp (by omega))
 ·rw[Nat.add_assoc];exact hc (k*5+3) _ (zb7 setCells 5 (fun _=>rfl) ps k 3 p hp (by omega))
 ·rw[Nat.add_assoc];exact hc (k*5+4) _ (zb7 setCells 5 (fun _=>rfl) ps k 4 p hp (by omega))
theorem Strs.shape {w:World} {lo:Nat} {v:Value} {l:List (List UInt8)} (h:Strs w lo v l):∃A c,v=.slice A l.length c:=by
 obtain⟨A,c,e,_⟩:=h;exact⟨A,c,e⟩
theorem zr0 {α:Type} (f:α→Bool) (l:List α) (k:Nat) (h:k<l.length) (hn:(l.take k).find? f=none):(f l[k]=true→l.find? f=some l[k])∧(f l[k]=false→(l.take (k+1)).find? f=none):=by
 constructor
 ·intro ht
  conv=>lhs;rw[←List.take_append_drop k l]
  rw[List.find?_append,hn,List.drop_eq_getElem_cons h,List.find?_cons_of_pos ht];rfl
 ·intro hf;rw[zat l k h,List.find?_append,hn];simp[hf]
def zdr (l:List SetD):Prop:=∀s∈l,s.name.length≤1048576∧s.data.length≤65536∧∀d∈s.data,d.length≤1048576
theorem zhy (lo:Nat) (v:Value) (l:List SetD) (n:List UInt8) (kind cls:Int) (w:World) (h:Sets w lo v l) (aB:zdr l) (hn:n.length≤1048576):
 Calls Tryz.prog 147 #[v,S n,.int .u16 kind,.int .u16 cls] w (zC3 (zbo l n kind cls) w):=by
 obtain⟨ps,A,c,hl,rfl,h1,h2,ay,aK⟩:=h
 have mH:n.length≤maxLen:=by unfold maxLen;omega
 unfold maxLen at h2;have aq:ps.length=l.length:=by rw[←hl];simp
 obtain⟨R,hR⟩:∃R,R=zbo l n kind cls:=⟨_,rfl⟩
 rw[←hR];have HR:=Z7 hR
 have Hl:=Z7 hl
 have cm:=Z7 aq
 clear hR hl aq;go_enter Tryz.func147,Tryz.ntmps147
 go_wp2
 go_loopw [14] (fun i wr=>∃k:Nat,k≤ps.length∧i=.int .i64 k∧(l.take k).find? (zge n kind cls)=none∧Ext (w.alloc (.cells #[S [],.int .u16 0,.int .u16 0,.int .u32 0,.slice none 0 0] 79)) wr) (fun i _=>ps.length - (intOf i).toNat)
 case atStart=>exact⟨0,by omega,rfl,rfl,Z5 _⟩
 case round=>
  obtain⟨k,hk,rfl,bT,hE⟩:=hrel
  obtain⟨wo,rfl⟩:∃wo:World,wo=wr:=⟨_,rfl⟩
  have fN:=Z7 bT
  clear bT;obtain⟨hq,bU,bP⟩:=zap hE
  have dB:Ext w wo:=((Z5 w).alloc _).trans hE
  by_cases ab:k<ps.length
  ·have bC:k<l.length:=by rw[←cm.out];exact ab
   have hp:ps[k]? =some ps[k]:=Z3 ab
   have bi:l[k]=ps[k].1:=by simp[←Hl.out]
   have j8:=zr0 (zge n kind cls) l k bC fN.out
   rw[bi]at j8;have j9:=aB l[k] (List.getElem_mem bC)
   rw[bi]at j9;have aZ:=aK ps[k] (List.getElem_mem ab)
   generalize ps[k]=p at*;obtain⟨b,off,rfl,_,az,hc⟩:=ay.2 (by omega)
   obtain⟨c0,c1,c2,c3,c4⟩:=zb0 hc k p hp
   rw[←dB.cell (p:=⟨b,_,none⟩) az]at c0 c1 c2 c3 c4
   have aU:b<wo.heap.size:=Z1 az dB.size
   have ni:=Z7 j8
   have fh:p.1.name.length≤maxLen:=by unfold maxLen;omega
   clear hc hp ay j8 bi aK;obtain⟨⟨nm,ty,cl,tt,da⟩,d⟩:=p
   dsimp only at*;obtain⟨dA,dc,rfl⟩:=aZ.shape
   by_cases bY:ty=kind
   ·subst bY;by_cases dz:cl=cls
    ·subst dz;have uf:=Z7 (show zge n ty cl ⟨nm,ty,cl,tt,da⟩=sameN nm n by simp[zge])
     by_cases dR:sameN nm n=true
     ·have HF:=Z7 (HR.out.trans (ni.out.1 (by rw[uf.out];exact dR)))
      go_wp2_with fail;refine(zm2 nm n _ fh mH).mono ?_;rintro e w2 ⟨rfl,ah⟩;rw[dR];obtain⟨hr,zg,zh⟩:=zap ah
      go_wp2_with fail;refine(zoh lo _ da w2 ((aZ.ext dB).ext ((((Z5 _).alloc _).trans ah))) j9.2.1).mono ?_;rintro e w3 ⟨v3,rfl,cR,ao⟩;obtain⟨A5,c5,rfl,cw⟩:=cR
      have iW:=ah.trans ao
      have bW:=(hE.alloc (.cells #[S nm,.int .u16 ty,.int .u16 cl,.int .u32 tt,.slice dA da.length dc] 79)).trans iW
      obtain⟨j6,ug,qj⟩:=zap iW
      obtain⟨xU,zi,zj⟩:=zap bW
      clear hr zg zh hq bU bP;have au:w.heap.size<wo.heap.size:=Z1 (by simp) hE.size
      go_wp2_with fail;refine bodyPost_ret (v:=.tuple #[zby ⟨nm,ty,cl,tt,da⟩ (.slice A5 da.length c5),.bool true]) ?_ rfl ?_
      ·simp[results,Tryz.results147,go_sem,xU,zi,zj]
      ·refine⟨_,by rw[HF.out];rfl,?_,?_⟩
       ·rw[HF.out];refine⟨A5,c5,rfl,Own.lower (lo:=w2.heap.size) ?_ (by have:=ah.size;simp at this;omega)⟩
        have ax:wo.heap.size<w2.heap.size:=by have:=ah.size;simp at this;omega
        repeat(with_reducible refine Own.set_other ?_ ?hp _;case hp=>(simp<;>omega))
        exact cw
       ·have fX:Ext w w3:=((Z5 w).alloc _).trans bW
        exact xt
     ·have HF:=Z7 (ni.out.2 (by rw[uf.out];simpa using dR))
      have nj:sameN nm n=false:=by simpa using dR
      clear dR;go_wp2_with fail;refine(zm2 nm n _ fh mH).mono ?_;rintro e w2 ⟨rfl,ah⟩;rw[nj];go_wp2_with fail;go_roundw
      case rel=>exact⟨k+1,by omega,by go_num,HF.out,(hE.alloc _).trans ah⟩
      case measure=>simp[intOf];omega
    ·have HF:=Z7 (ni.out.2 (by simp[zge,dz]))
     have f1:(cl==cls)=false:=by rw[beq_eq_false_iff_ne];exact dz
     clear dz;go_wp2_with fail;go_roundw
     case rel=>exact⟨k+1,by omega,by go_num,HF.out,hE.alloc _⟩
     case measure=>simp[intOf];omega
   ·have HF:=Z7 (ni.out.2 (by simp[zge,bY]))
    have f1:(ty==kind)=false:=by rw[beq_eq_false_iff_ne];exact bY
    clear bY;go_wp2_with fail;go_roundw
    case rel=>exact⟨k+1,by omega,by go_num,HF.out,hE.alloc _⟩
    case measure=>simp[intOf];omega
  ·have HF:Hid (R=none):=by
    have:=fN.out
    rw[List.take_of_length_le (by rw[←cm.out];omega)]at this
    rw[HR.out];exact this
   go_wp2_with fail;refine bodyPost_ret (v:=.tuple #[zby SetD.zero (.slice none 0 0),.bool false]) (by simp[results,Tryz.results147,go_sem,hq,bU,bP,SetD.zero]) rfl ?_
   refine⟨_,by rw[HF.out];rfl,?_,?_⟩
   ·rw[HF.out];exact⟨none,0,rfl,Own.nil _ _ _ _⟩
   ·exact xt
def targetS (s:SetD):Option (List UInt8):=
 match s.data with
 |[d]=>match rnames 5 d with
  |[n]=>some (fold n)
  |_=>none
 |_=>none
structure FolR where
 path:List SetD
 here:List UInt8
 fin:List SetD
 err:Nat
def FolR.bad (e:Nat):FolR:=⟨[],[],[],e⟩
def followF (l:List SetD) (ty cls:Int):Nat→List UInt8→List (List UInt8)→List SetD→FolR
 |0,_,_,_=>FolR.bad 0
 |n+1,here,seen,path=>
  if ty=5 then⟨path,here,(zbo l here ty cls).toList,0⟩
  else match zbo l here 5 cls with
   |none=>⟨path,here,(zbo l here ty cls).toList,0⟩
   |some a=>
    if path.length=8 then FolR.bad 5
    else match targetS a with
     |none=>FolR.bad 3
     |some next=>
      if(zbo l here ty cls).isSome then FolR.bad 3
      else if seen.contains next then FolR.bad 8
      else followF l ty cls n next (seen++[next]) (path++[a])
def followOf (n:List UInt8) (ty cls:Int) (l:List SetD):FolR:=
 if may n then followF l ty cls 9 (fold n) [fold n] []else FolR.bad 1
theorem ze4 (n:List UInt8):(fold n).length≤255:=by
 unfold fold;split
 ·rename_i h;rw[zbg];exact zek h
 ·simp
theorem zpn (s:SetD) (n:List UInt8) (h:targetS s=some n):n.length≤255:=by
 unfold targetS at h;split at h
 ·split at h
  ·injection h with h;rw[←h];exact ze4 _
  ·cases h
 ·cases h
theorem zBf (kind:Int) (d:List UInt8):(rnames kind d).length≤3∧∀n∈rnames kind d,n.length≤d.length+255:=by
 have h:=zhw kind d
 unfold rnames;refine⟨?_,fun n hn=>?_⟩
 ·rw[List.length_map];exact Z2 (List.length_filter_le _ _) h.1
 ·obtain⟨p,hp,rfl⟩:=List.mem_map.1 hn
  exact h.2 p (List.mem_filter.1 hp).1
def zx3 (r:Option (List UInt8)) (w:World) (e:Ending) (w':World):Prop:=e=.returned (.tuple #[S (r.getD []),.bool r.isSome])∧Ext w w'
theorem zin {n:Nat} (h:n≠1):((n:Int)==1)=false∧((n:Int)!=1)=true:=by
 have:((n:Int)==1)=false:=by rw[beq_eq_false_iff_ne];omega
 exact⟨this,by rw[bne,this];rfl⟩
theorem zsr (lo:Nat) (s:SetD) (d:Value) (w:World) (hg:Laid w) (hs:Strs w lo d s.data) (hb:∀x∈s.data,x.length≤1048576):
 Calls Tryz.prog 148 #[zby s d] w (zx3 (targetS s) w):=by
 obtain⟨nm,ty,cl,tt,da⟩:=s
 dsimp only at*;obtain⟨A,c,rfl,h1,h2,ay⟩:=hs
 unfold maxLen at h2;by_cases hl:da.length=1
 ·obtain⟨x,rfl⟩:=List.length_eq_one_iff.1 hl
  obtain⟨b,off,rfl,_,az,hc⟩:=ay.2 (by simp)
  have c0:=hc 0 (S x) rfl
  have hT:targetS ⟨nm,ty,cl,tt,[x]⟩=match rnames 5 x with|[n]=>some (fold n)|_=>none:=rfl
  rw[hT];have hx:=hb x (by simp)
  have mJ:=zBf 5 x
  have HN:=Z7 (fun W (h:Laid W)=>zv9 5 x W h hx)
  generalize rnames 5 x=ns at*;simp only[Nat.add_zero]at c0;clear hc ay hl hb hT;simp only[List.length_singleton];go_enter Tryz.func148,Tryz.ntmps148;go_wp2_with fail;refine(HN.out _ (hg.ext ((Z5 _).alloc _))).mono ?_;rintro e w2 ⟨v,rfl,ho,ah⟩;obtain⟨A5,c5,rfl,cw⟩:=ho
  by_cases j7:ns.length=1
  ·obtain⟨n,rfl⟩:=List.length_eq_one_iff.1 j7
   obtain⟨b5,zDd,rfl,_,_,CR⟩:=cw.rd.2 (by simp)
   have c5':=CR 0 (S n) rfl
   simp only[Nat.add_zero]at c5';have fi:=mJ.2 n (by simp)
   clear CR cw j7 mJ;simp only[List.length_singleton];go_wp2_with fail;refine(zhg n w2 (by unfold maxLen;omega)).mono ?_;rintro e w3 ⟨rfl,ao⟩
   go_wp2_with fail
   go_ret2
   exact⟨rfl,(((Z5 _).alloc _).trans ah).trans ao⟩
  ·obtain⟨f1,f2⟩:=zin j7
   have HM:Hid ((match ns with|[n]=>some (fold n)|_=>none)=none):=by
    match ns,j7 with
    |[],_=>rfl
    |[_],h=>exact absurd rfl h
    |_::_::_,_=>rfl
   have JB:(ns.length:Int)≤3:=by have:=mJ.1;omega
   clear j7 mJ;generalize (match ns with|[n]=>some (fold n)|_=>none)=T at*
   go_wp2_with fail
   go_ret2
   exact⟨by first|rfl|(rw[HM.out];rfl),((Z5 _).alloc _).trans ah⟩
 ·obtain⟨f1,f2⟩:=zin hl
  have HM:Hid (targetS ⟨nm,ty,cl,tt,da⟩=none):=by
   match da,hl with
   |[],_=>rfl
   |[_],h=>exact absurd rfl h
   |_::_::_,_=>rfl
  generalize targetS ⟨nm,ty,cl,tt,da⟩=T at*;clear hl;go_enter Tryz.func148,Tryz.ntmps148;go_wp2_with fail
  go_ret2
  exact⟨by rw[HM.out];rfl,(Z5 _).alloc _⟩
theorem zfl {w:World} {lo lo':Nat} {e e':TypeId} {sz sz' n m c d:Nat} {A B:Option Addr} {xs ys:List Value} (h:Own w lo e sz A n c xs) (k:Own w lo' e' sz' B m d ys) (au:e≠e'):
 (Value.slice A n c).ownBlock=none∨(Value.slice A n c).ownBlock≠(Value.slice B m d).ownBlock:=by
 rcases h.2 with⟨h1,_⟩|⟨g,cap,cur,h1,_,hh,_⟩
 ·injection h1 with h1;subst h1;exact .inl rfl
 ·rcases k.2 with⟨k1,_⟩|⟨g',cap',cur',k1,_,kk,_⟩
  ·injection h1 with h1;injection k1 with k1;subst h1 k1;exact .inr (by simp[Value.ownBlock])
  ·injection h1 with h1;injection k1 with k1;subst h1 k1
   refine .inr (fun e0=>au ?_)
   have:g=g':=by simpa[Value.ownBlock]using e0
   subst this;rw[hh]at kk;injection kk with kk
   injection kk
theorem OStrs.kept {w w':World} {lo:Nat} {v:Value} {l:List (List UInt8)} (h:OStrs w lo v l) {row:Option Nat} (hg:w.grownBy w' row) (au:v.ownBlock=none∨v.ownBlock≠row):OStrs w' lo v l:=by
 obtain⟨A,c,rfl,ho⟩:=h
 exact⟨A,c,rfl,ho.kept hg au⟩
theorem OStrs.blk {w:World} {lo:Nat} {v:Value} {l:List (List UInt8)} (h:OStrs w lo v l):∀k,v.ownBlock=some k→lo≤k∧k<w.heap.size:=by
 obtain⟨A,c,rfl,ho⟩:=h
 exact ho.blk
theorem zfx:(Tryz.prog.info? 79).map (fun i=>(i.zero,i.size,i.bytes))=some (some (.agg #[.string ⟨#[]⟩,.int .u16 0,.int .u16 0,.int .u32 0,.slice none 0 0]),5,48):=by kernel_rfl
theorem zwy (p:SetD×Value) {w:World} {lo:Nat} (h:OStrs w lo p.2 p.1.data):∀u∈setCells p,u.oneCell'=true:=by
 intro u hu;obtain⟨A,c,e,_⟩:=h
 simp only[setCells,List.mem_cons,List.not_mem_nil,or_false]at hu;rcases hu with rfl|rfl|rfl|rfl|rfl<;>first|rfl|(rw[e];rfl)
theorem zeq (w:World) (g lo:Nat) (hg:g=w.heap.size) (ak:lo≤w.heap.size) (e:TypeId) (cs:List Value) (n sz:Nat) (hl:cs.length=n*sz) (hn:n≤maxLen):Own (w.alloc (.cells cs.toArray e)) lo e sz (some ⟨g,0,none⟩) n n cs:=by
 subst hg;have:=World.ownsRow_lit (size:=sz) (e:=e) w cs.toArray n ak hn (by simpa using hl)
 simpa[Own]using this
theorem zqz {l:List SetD} {n:List UInt8} {k c:Int} {s:SetD} (h:zbo l n k c=some s):s∈l:=List.mem_of_find?_eq_some h
theorem zb3 {w:World} {lo lo':Nat} {v:Value} {l:List (List UInt8)} {sz m d:Nat} {B:Option Addr} {ys:List Value} (h:OStrs w lo v l) (k:Own w lo' 79 sz B m d ys):
 v.ownBlock=none∨v.ownBlock≠(Value.slice B m d).ownBlock:=by
 obtain⟨A,c,rfl,ho⟩:=h
 exact zfl ho k (by decide)
theorem zf8 {v:Value} {old new:Option Nat} {size:Nat} (h:v.ownBlock=none∨v.ownBlock≠old) (ab:∀k,v.ownBlock=some k→k<size) (jz:new=old∨new=some size):v.ownBlock=none∨v.ownBlock≠new:=by
 rcases h with h|h
 ·exact .inl h
 ·rcases jz with e|e
  ·rw[e];exact .inr h
  ·refine .inr (fun e'=>?_)
   have:=ab size (e'.trans e)
   omega
structure FoInv (w1:World) (l:List SetD) (ty cls:Int) (R:FolR) (here:List UInt8) (seen:List (List UInt8)) (ps:List (SetD×Value)) (sA:Option Addr) (sc:Nat) (pA:Option Addr) (pc:Nat) (wr:World):Prop where
 h8:ps.length≤8
 hs:seen.length=ps.length+1
 hh:here.length≤255
 oseen:Own wr w1.heap.size 9 1 sA seen.length sc (seen.map S)
 opath:Own wr w1.heap.size 79 5 pA ps.length pc (ps.flatMap setCells)
 datas:∀p∈ps,OStrs wr w1.heap.size p.2 p.1.data
 apart:∀p∈ps,p.2.ownBlock=none∨p.2.ownBlock≠(Value.slice sA seen.length sc).ownBlock
 ext:Ext w1 wr
 eq:R=followF l ty cls (9 - ps.length) here seen (ps.map Prod.fst)
def zx1 (R:FolR) (w:World) (e:Ending) (w':World):Prop:=
 ∃v u wm,e=.returned (.tuple #[v,S R.here,u,.int .i64 R.err])∧OSets wm w.heap.size v R.path∧Ext w wm∧OSets w' wm.heap.size u R.fin∧Ext wm w'
theorem OSets.nil (w:World) (lo:Nat):OSets w lo (.slice none 0 0) []:=⟨[],none,0,rfl,rfl,Own.nil _ _ _ _,by simp⟩
theorem zax {fn:Func} {t u v x:Tmp} (h:fn.results= #[.tmp t,.tmp u,.tmp v,.tmp x]) (tmps:Array Value) (P:Program) (w:World):
 (results fn tmps).run P w=.ok (.tuple #[tmps.getD t undef,tmps.getD u undef,tmps.getD v undef,tmps.getD x undef]) w:=by simp[results,h]
theorem zsq (lo:Nat) (n:List UInt8) (ty cls:Int) (v:Value) (l:List SetD) (w:World) (hg:Laid w) (hS:Sets w lo v l) (aB:zdr l) (hn:n.length≤1048576):
 Calls Tryz.prog 85 #[.agg #[S n,.int .u16 ty,.int .u16 cls],v] w (zx1 (followOf n ty cls l) w):=by
 have mH:n.length≤maxLen:=by unfold maxLen;omega
 by_cases hm:may n=true
 ·have hR:followOf n ty cls l=followF l ty cls 9 (fold n) [fold n] []:=by unfold followOf;rw[if_pos hm]
  rw[hR];clear hR;obtain⟨R,hR⟩:∃R,R=followF l ty cls 9 (fold n) [fold n] []:=⟨_,rfl⟩
  rw[←hR];have HR:=Z7 hR
  clear hR;have fw:=ze4 n
  obtain⟨i0,aH,aF,aC,ax⟩:=info_parts zed
  obtain⟨j0,iX,kO,jA,gS⟩:=info_parts zfx
  go_enter Tryz.func85,Tryz.ntmps85;go_wp2_with fail
  go_step3
  go_wp2_with fail;refine(zbe n _ mH).mono ?_;rintro e w' ⟨rfl,rfl⟩;rw[hm];go_wp2_with fail;refine(zhg n _ mH).mono ?_;rintro e w1 ⟨rfl,ae⟩;generalize fold n=here0 at*;go_wp2_with fail;have co:w.heap.size≤w1.heap.size:=(((Z5 w).alloc _).trans ae).size
  have bR:Ext w w1:=((Z5 w).alloc _).trans ae
  go_step3
  go_wp2_with fail
  go_loopw [6,8,9,10] (fun o6 h s p wr=>∃(here:List UInt8) (seen:List (List UInt8)) (ps:List (SetD×Value)) (sA:Option Addr) (sc:Nat) (pA:Option Addr) (pc:Nat),o6=.slice none 0 0∧h=S here∧s=.slice sA seen.length sc∧p=.slice pA ps.length pc∧FoInv w1 l ty cls R here seen ps sA sc pA pc wr) (fun _ _ _ p _=>8 - lenOf p)
  case atStart=>
   refine⟨here0,[here0],[],_,1,none,0,rfl,rfl,rfl,rfl,⟨by simp,rfl,fw,zeq w1 _ _ rfl (Z4 _) _ _ 1 1 rfl (by unfold maxLen;omega),Own.nil _ _ _ _,by simp,by simp,(Z5 _).alloc _,HR.out⟩⟩
  case round=>
   obtain⟨here,seen,ps,sA,sc,pA,pc,rfl,rfl,rfl,rfl,hI⟩:=hrel
   obtain⟨wo,rfl⟩:∃wo:World,wo=wr:=⟨_,rfl⟩
   have h8:=hI.h8
   have hs:=hI.hs
   obtain⟨hq,bU,bP⟩:=zap (ae.trans hI.ext)
   have hF:=hI.eq
   rw[show 9 - ps.length=(8 - ps.length)+1 by omega]at hF
   simp only[followF]at hF;have HS:=Z7 hs
   clear hs;by_cases bY:ty=5
   ·rw[if_pos bY]at hF;have HF:=Z7 hF
    clear hF;have f5:(ty==5)=true:=by rw[beq_iff_eq];exact bY
    have f6:(ty !=5)=false:=by rw[bne,f5];rfl
    clear bY;go_wp2_with fail;refine(zhy lo v l here ty cls _ (hS.ext (bR.trans hI.ext)) aB (by have:=hI.hh;omega)).mono ?_;rintro e w5 ⟨d5,rfl,cw,am⟩
    obtain⟨dA5,dc5,rfl,eQ⟩:=cw
    rcases cE:zbo l here ty cls with _|s5
    ·have eR:=Z7 cE
     rw[cE]at eQ;clear cE;dsimp only[Option.getD,Option.isSome]at eQ ⊢;go_wp2_with fail;refine bodyPost_ret (zax rfl _ _ _) rfl ?_;have aN:=((Z5 wo).trans am).alloc (.cells #[S SetD.zero.name,.int .u16 SetD.zero.typ,.int .u16 SetD.zero.cls,.int .u32 SetD.zero.ttl,.slice dA5 SetD.zero.data.length dc5] 79)
     refine⟨_,_,wo,by rw[HF.out,eR.out];rfl,?_,bR.trans hI.ext,?_,aN⟩
     ·rw[HF.out];exact⟨ps,pA,pc,rfl,rfl,hI.opath.lower co,fun p hp=>(hI.datas p hp).lower co⟩
     ·rw[HF.out,eR.out];exact OSets.nil _ _
    ·have eR:=Z7 cE
     rw[cE]at eQ;clear cE;dsimp only[Option.getD,Option.isSome]at eQ ⊢;go_wp2_with fail;refine bodyPost_ret (zax rfl _ _ _) rfl ?_;have aN:=(((Z5 wo).trans am).alloc (.cells #[S s5.name,.int .u16 s5.typ,.int .u16 s5.cls,.int .u32 s5.ttl,.slice dA5 s5.data.length dc5] 79)).alloc (.cells #[S s5.name,.int .u16 s5.typ,.int .u16 s5.cls,.int .u32 s5.ttl,.slice dA5 s5.data.length dc5] 79)
     refine⟨_,_,wo,by rw[HF.out,eR.out];rfl,?_,bR.trans hI.ext,?_,aN⟩
     ·rw[HF.out];exact⟨ps,pA,pc,rfl,rfl,hI.opath.lower co,fun p hp=>(hI.datas p hp).lower co⟩
     ·rw[HF.out,eR.out];refine⟨[(s5,.slice dA5 s5.data.length dc5)],_,1,rfl,rfl,zeq _ _ _ (by simp) (Z2 am.size (by simp)) _ _ 1 5 rfl (by unfold maxLen;omega),?_⟩
      intro p hp;rw[List.mem_singleton]at hp;subst hp;exact⟨dA5,dc5,rfl,(eQ.ext ((Z5 _).alloc _)).ext ((Z5 _).alloc _)⟩
   ·rw[if_neg bY]at hF;have f5:(ty==5)=false:=by rw[beq_eq_false_iff_ne];exact bY
    have f6:(ty !=5)=true:=by rw[bne,f5];rfl
    clear bY;go_wp2_with fail;refine(zhy lo v l here 5 cls _ (hS.ext (bR.trans hI.ext)) aB (by have:=hI.hh;omega)).mono ?_;rintro e w2 ⟨d2,rfl,aI,ah⟩
    obtain⟨dA2,dc2,rfl,iY⟩:=aI
    rcases lr:zbo l here 5 cls with _|a
    ·rw[lr]at hF iY;have HF:=Z7 hF
     clear hF lr;dsimp only[Option.getD,Option.isSome]at iY ⊢;have du:=ah.alloc (.cells #[S SetD.zero.name,.int .u16 SetD.zero.typ,.int .u16 SetD.zero.cls,.int .u32 SetD.zero.ttl,.slice dA2 SetD.zero.data.length dc2] 79)
     have cq:=(bR.trans hI.ext).trans du
     obtain⟨eS,nl,nn⟩:=zap ((ae.trans hI.ext).trans ah)
     clear hq bU bP;go_wp2_with fail;refine(zhy lo v l here ty cls _ (hS.ext cq) aB (by have:=hI.hh;omega)).mono ?_;rintro e w5 ⟨d5,rfl,cw,am⟩
     obtain⟨dA5,dc5,rfl,eQ⟩:=cw
     rcases cE:zbo l here ty cls with _|s5
     ·have eR:=Z7 cE
      rw[cE]at eQ;clear cE;dsimp only[Option.getD,Option.isSome]at eQ ⊢;go_wp2_with fail;refine bodyPost_ret (zax rfl _ _ _) rfl ?_;have aN:=(du.trans am).alloc (.cells #[S SetD.zero.name,.int .u16 SetD.zero.typ,.int .u16 SetD.zero.cls,.int .u32 SetD.zero.ttl,.slice dA5 SetD.zero.data.length dc5] 79)
      refine⟨_,_,wo,by rw[HF.out,eR.out];rfl,?_,bR.trans hI.ext,?_,aN⟩
      ·rw[HF.out];exact⟨ps,pA,pc,rfl,rfl,hI.opath.lower co,fun p hp=>(hI.datas p hp).lower co⟩
      ·rw[HF.out,eR.out];exact OSets.nil _ _
     ·have eR:=Z7 cE
      rw[cE]at eQ;clear cE;dsimp only[Option.getD,Option.isSome]at eQ ⊢;go_wp2_with fail;refine bodyPost_ret (zax rfl _ _ _) rfl ?_;have aN:=((du.trans am).alloc (.cells #[S s5.name,.int .u16 s5.typ,.int .u16 s5.cls,.int .u32 s5.ttl,.slice dA5 s5.data.length dc5] 79)).alloc (.cells #[S s5.name,.int .u16 s5.typ,.int .u16 s5.cls,.int .u32 s5.ttl,.slice dA5 s5.data.length dc5] 79)
      refine⟨_,_,wo,by rw[HF.out,eR.out];rfl,?_,bR.trans hI.ext,?_,aN⟩
      ·rw[HF.out];exact⟨ps,pA,pc,rfl,rfl,hI.opath.lower co,fun p hp=>(hI.datas p hp).lower co⟩
      ·rw[HF.out,eR.out];refine⟨[(s5,.slice dA5 s5.data.length dc5)],_,1,rfl,rfl,zeq _ _ _ (by simp) (Z2 du.size (Z2 am.size (by simp))) _ _ 1 5 rfl (by unfold maxLen;omega),?_⟩
       intro p hp;rw[List.mem_singleton]at hp;subst hp;exact⟨dA5,dc5,rfl,((eQ.ext ((Z5 _).alloc _)).ext ((Z5 _).alloc _)).lower du.size⟩
    ·rw[lr]at hF iY;have zk:=Z7 lr
     clear lr;dsimp only[Option.getD,Option.isSome]at hF iY ⊢;simp only[List.length_map]at hF;have cr:=bR.trans hI.ext
     have du:=ah.alloc (.cells #[S a.name,.int .u16 a.typ,.int .u16 a.cls,.int .u32 a.ttl,.slice dA2 a.data.length dc2] 79)
     have cq:=cr.trans du
     have qk:=aB a (zqz zk.out)
     by_cases nr:ps.length=8
     ·rw[if_pos nr]at hF;have HF:=Z7 hF
      have f8:((ps.length:Int)==8)=true:=by rw[beq_iff_eq];omega
      clear hF nr;go_wp2_with fail;refine bodyPost_ret (zax rfl _ _ _) rfl ?_;exact⟨_,_,_,by rw[HF.out];rfl,by rw[HF.out];exact OSets.nil _ _,cq,by rw[HF.out];exact OSets.nil _ _,Z5 _⟩
     ·rw[if_neg nr]at hF;have f8:((ps.length:Int)==8)=false:=by rw[beq_eq_false_iff_ne];omega
      have EP:ps.length≤7:=by omega
      clear nr;obtain⟨eS,nl,nn⟩:=zap ((ae.trans hI.ext).trans ah)
      clear hq bU bP;go_wp2_with fail;refine(zsr wo.heap.size a (.slice dA2 a.data.length dc2) _ (hg.ext cq) ((OStrs.strs ⟨dA2,dc2,rfl,iY⟩).ext ((Z5 _).alloc _)) qk.2.2).mono ?_;rintro e w3 ⟨rfl,ao⟩;have fX:=cq.trans ao
      obtain⟨gQ,qm,qp⟩:=zap ((((ae.trans hI.ext).trans ah).alloc (.cells #[S a.name,.int .u16 a.typ,.int .u16 a.cls,.int .u32 a.ttl,.slice dA2 a.data.length dc2] 79)).trans ao)
      obtain⟨j6,ug,qj⟩:=zap ao
      clear eS nl nn;rcases uh:targetS a with _|next
      ·rw[uh]at hF;have HF:=Z7 hF
       clear hF uh;dsimp only[Option.getD,Option.isSome];go_wp2_with fail;refine bodyPost_ret (zax rfl _ _ _) rfl ?_;exact⟨_,_,_,by rw[HF.out];rfl,by rw[HF.out];exact OSets.nil _ _,fX,by rw[HF.out];exact OSets.nil _ _,Z5 _⟩
      ·rw[uh]at hF;have CS:=zpn a next uh
       clear uh;dsimp only[Option.getD,Option.isSome]at hF ⊢;go_wp2_with fail;refine(zhy lo v l here ty cls _ (hS.ext fX) aB (by have:=hI.hh;omega)).mono ?_;rintro e w4 ⟨d4,rfl,bS,aL⟩
       obtain⟨dA4,dc4,rfl,nt⟩:=bS
       have fx:=fX.trans aL
       rcases xV:zbo l here ty cls with _|s4
       ·rw[xV]at hF nt;rw[if_neg (by simp)]at hF
        clear xV;dsimp only[Option.getD,Option.isSome]at nt ⊢;have gT:=aL.alloc (.cells #[S SetD.zero.name,.int .u16 SetD.zero.typ,.int .u16 SetD.zero.cls,.int .u32 SetD.zero.ttl,.slice dA4 SetD.zero.data.length dc4] 79)
        have gU:Ext wo _:=(du.trans ao).trans gT
        have gV:=fX.trans gT
        by_cases fj:seen.contains next=true
        ·rw[if_pos fj]at hF;have HF:=Z7 hF
         have zn:=Z7 fj
         clear hF fj;go_wp2_with fail;refine(znm 0 _ seen next _ (((OStrs.strs ⟨sA,sc,rfl,hI.oseen⟩).ext gU).lower (Nat.zero_le _))).mono ?_;rintro e w' ⟨rfl,rfl⟩
         rw[zn.out];go_wp2_with fail;refine bodyPost_ret (zax rfl _ _ _) rfl ?_;exact⟨_,_,_,by rw[HF.out];rfl,by rw[HF.out];exact OSets.nil _ _,gV,by rw[HF.out];exact OSets.nil _ _,Z5 _⟩
        ·have ui:seen.contains next=false:=by simpa using fj
         rw[if_neg fj]at hF;have HF:=Z7 hF
         have zn:=Z7 ui
         clear hF fj ui;go_wp2_with fail;refine(znm 0 _ seen next _ (((OStrs.strs ⟨sA,sc,rfl,hI.oseen⟩).ext gU).lower (Nat.zero_le _))).mono ?_;rintro e w' ⟨rfl,rfl⟩
         rw[zn.out];obtain⟨fg,EQ,zo⟩:=zap (ao.trans aL)
         clear j6 ug qj gQ qm qp;have fM:w2.heap.size<w4.heap.size:=zo
         have bL:=(hI.opath.ext gU).ext ((Z5 _).alloc (.cells #[S a.name,.int .u16 a.typ,.int .u16 a.cls,.int .u32 a.ttl,.slice dA2 a.data.length dc2] 79))
         have CT:=(hI.oseen.ext gU).ext ((Z5 _).alloc (.cells #[S a.name,.int .u16 a.typ,.int .u16 a.cls,.int .u32 a.ttl,.slice dA2 a.data.length dc2] 79))
         have qu:∀p∈ps,OStrs _ w1.heap.size p.2 p.1.data:=fun p hp=>((hI.datas p hp).ext gU).ext ((Z5 _).alloc (.cells #[S a.name,.int .u16 a.typ,.int .u16 a.cls,.int .u32 a.ttl,.slice dA2 a.data.length dc2] 79))
         have gW:OStrs _ w1.heap.size (.slice dA2 a.data.length dc2) a.data:=(((OStrs.lower ⟨dA2,dc2,rfl,iY⟩ hI.ext.size).ext (((Z5 _).alloc (.cells #[S a.name,.int .u16 a.typ,.int .u16 a.cls,.int .u32 a.ttl,.slice dA2 a.data.length dc2] 79)).trans (ao.trans gT))).ext ((Z5 _).alloc (.cells #[S a.name,.int .u16 a.typ,.int .u16 a.cls,.int .u32 a.ttl,.slice dA2 a.data.length dc2] 79)))
         have qw:=iY.blk
         have pe:(Value.slice dA2 a.data.length dc2).ownBlock=none∨(Value.slice dA2 a.data.length dc2).ownBlock≠(Value.slice sA seen.length sc).ownBlock:=by
          rcases xW:(Value.slice dA2 a.data.length dc2).ownBlock with _|k
          ·exact .inl rfl
          ·exact .inr (fun e'=>by have h1:=(qw k xW).1;have h2:=(hI.oseen.blk k e'.symm).2;omega)
         go_wp2_with(first
          |(at_builtin
            refine zad _ rfl (.tmp 65) (.tmp 67) _ rfl w1.heap.size 79 j0 _ 5 48 Tryz.underlying22 iX kO jA gS rfl (by omega) pA ps.length pc (ps.flatMap setCells) rfl bL 0 _ 1 1 (setCells (a,.slice dA2 a.data.length dc2)) rfl (zaw _ _ (by simp) _ _ 1 5 rfl) (zwy _ gW) (by omega) (by omega) (by have:=(hI.ext.trans gU).size;simp at this ⊢;omega) ?_
            intro A5 c5 w5 ai bq aG dS;have uj:=CT.kept bq (zfl CT bL (by decide))
            have nu:∀p∈ps,OStrs w5 w1.heap.size p.2 p.1.data:=fun p hp=>(qu p hp).kept bq (zb3 (qu p hp) bL)
            have jB:=gW.kept bq (zb3 gW bL)
            have uk:w1.heap.size≤w5.heap.size:=Z2 (hI.ext.trans gU).size (Z2 (by simp) aG.size))
          |(at_builtin
            refine zad _ rfl (.tmp 69) (.tmp 71) _ rfl w1.heap.size 9 i0 _ 1 16 Tryz.underlying77 aH aF aC ax rfl (by omega) sA seen.length sc (seen.map S) rfl (uj.ext ((Z5 _).alloc _)) 0 _ 1 1 ([next].map S) rfl (zaw _ _ rfl _ _ 1 1 rfl) (zdg _) (by have:=HS.out;omega) (by omega) (by simp;omega) ?_
            intro A6 c6 w6 aQ dG dT dH))
         have am:Ext w1 w5:=((hI.ext.trans gU).alloc _).then aG (Z4 _)
         have aw:Ext w1 w6:=(am.alloc _).then dT (Z4 _)
         go_roundw
         case rel=>
          refine⟨next,seen++[next],ps++[(a,.slice dA2 a.data.length dc2)],A6,c6,A5,c5,rfl,rfl,by simp,by simp,⟨by simp;omega,by simp[HS.out],CS,?_,?_,?_,?_,aw,?_⟩⟩
          ·rw[Z6,List.map_append];exact aQ
          ·rw[Z6,List.flatMap_append];have h1:Own (w5.alloc (.cells #[S next] 9)) w1.heap.size 79 5 A5 (ps.length+1) c5 (ps.flatMap setCells++setCells (a,.slice dA2 a.data.length dc2)):=ai.ext ((Z5 w5).alloc (.cells #[S next] 9))
           have h2:=h1.kept dG (zfl h1 (uj.ext ((Z5 w5).alloc (.cells #[S next] 9))) (by decide))
           simpa using h2
          ·intro p hp;rcases List.mem_append.1 hp with h|h
           ·exact((nu p h).ext ((Z5 w5).alloc (.cells #[S next] 9))).kept dG (hI.apart p h)
           ·rw[List.mem_singleton]at h;subst h;exact(jB.ext ((Z5 w5).alloc (.cells #[S next] 9))).kept dG pe
          ·intro p hp;rw[Z6];rcases List.mem_append.1 hp with h|h
           ·exact zf8 (hI.apart p h) (fun k hk=>(((nu p h).ext ((Z5 w5).alloc (.cells #[S next] 9))).blk k hk).2) dH
           ·rw[List.mem_singleton]at h;subst h;exact zf8 pe (fun k hk=>((jB.ext ((Z5 w5).alloc (.cells #[S next] 9))).blk k hk).2) dH
          ·rw[HF.out];simp only[Z6,List.length_singleton,List.map_append,List.map_cons,List.map_nil];congr 1;omega
         case measure=>simp only[lenOf];omega
       ·rw[xV]at hF nt;rw[if_pos rfl]at hF;have HF:=Z7 hF
        clear hF xV;dsimp only[Option.getD,Option.isSome]at nt ⊢;go_wp2_with fail;refine bodyPost_ret (zax rfl _ _ _) rfl ?_;exact⟨_,_,_,by rw[HF.out];rfl,by rw[HF.out];exact OSets.nil _ _,fx.alloc _,by rw[HF.out];exact OSets.nil _ _,Z5 _⟩
 ·have hR:followOf n ty cls l=FolR.bad 1:=by unfold followOf;rw[if_neg hm]
  rw[hR];have gP:may n=false:=by simpa using hm
  clear hm hR;go_enter Tryz.func85,Tryz.ntmps85;go_wp2_with fail
  go_step3
  go_wp2_with fail;refine(zbe n _ mH).mono ?_;rintro e w' ⟨rfl,rfl⟩;rw[gP];go_wp2_with fail;refine bodyPost_ret (zax rfl _ _ _) rfl ?_;exact⟨_,_,_,rfl,OSets.nil _ _,(Z5 _).alloc _,OSets.nil _ _,Z5 _⟩
end Go.Proofs.YtdnpmapelmjfpaaGreatDoor
