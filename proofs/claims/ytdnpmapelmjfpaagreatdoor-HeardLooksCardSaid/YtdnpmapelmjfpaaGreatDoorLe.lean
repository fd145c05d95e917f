/- Lemmas of this claim. No condition. -/
import Derived.Test.YtdnpmapelmjfpaaGreatDoorLd
import Derived.Deep.RegionHeld3
import Derived.Deep.RegionWith
set_option maxHeartbeats 4000000
set_option linter.unusedVariables false
set_option linter.unusedSimpArgs false
set_option maxRecDepth 100000
namespace Go.Proofs.YtdnpmapelmjfpaaGreatDoor
open Go.RowKit
theorem zsb (W:World) (g:Nat) (hg:g=W.heap.size) (x:Int) (c:UInt8) (h:x=c.toNat):(convert 110 9 (.slice (some ⟨g,0,none⟩) 1 1)).run Tryz.prog (W.alloc (.cells #[.int .u8 x] 5))=.ok (S [c]) (W.alloc (.cells #[.int .u8 x] 5)):=by
 subst hg h;exact zeb (lo:=0) 1 (l:=[c]) (zaw W _ rfl _ _ 1 1 rfl)
theorem zG0 (a b:List UInt8):(ByteArray.mk a.toArray)++(ByteArray.mk b.toArray)=ByteArray.mk (a++b).toArray:=by
 apply ByteArray.ext;simp
attribute [go_sem] zG0
theorem zqh (l:List UInt8) (w:World) (hl:l.length≤1048576):
 Calls Tryz.prog 162 #[S l] w fun e w'=>e=.returned (S (low l))∧Ext w w':=by
 go_enter Tryz.func162,Tryz.ntmps162
 go_wp2
 go_loopw [3,4,5] (fun o i _ wr=>∃k:Nat,k≤l.length∧i=.int .i64 k∧o=S (low (l.take k))∧Ext w wr) (fun _ i _ _=>l.length - (intOf i).toNat)
 case atStart=>exact⟨0,by omega,rfl,rfl,Z5 _⟩
 case round=>
  obtain⟨k,hk,rfl,rfl,hE⟩:=hrel
  obtain⟨wo,rfl⟩:∃wo:World,wo=wr:=⟨_,rfl⟩
  by_cases ab:k<l.length
  ·obtain⟨b,Hb,cg,dp,aB⟩:=zbu l k ab
   have bO:=Z7 (show low (l.take (k+1))=low (l.take k)++[lowB b]by rw[zat l k ab,Hb.out];simp[low])
   have kP:(low (l.take k)).length≤1048576:=by rw[zbg];simp;omega
   by_cases h1:65≤(b.toNat:Int)∧(b.toNat:Int)≤90
   ·obtain⟨h1,h2⟩:=h1
    have gD:=zsb wo wo.heap.size rfl _ _ (zi2 h1 h2)
    generalize lowB b=c at*;generalize low (l.take k)=T at*
    go_wp2
    go_roundw
    case rel=>exact⟨k+1,by omega,by go_num,by rw[bO.out],hE.alloc _⟩
    case measure=>simp[intOf];omega
   ·have fN:=Z7 (zfb h1)
    rw[fN.out]at bO;have gD:=zsb wo wo.heap.size rfl (b.toNat:Int) b rfl
    generalize low (l.take k)=T at*;by_cases h2:65≤(b.toNat:Int)
    ·have h3:90<(b.toNat:Int):=by omega
     clear h1
     go_wp2
     go_roundw
     case rel=>exact⟨k+1,by omega,by go_num,by rw[bO.out],hE.alloc _⟩
     case measure=>simp[intOf];omega
    ·clear h1
     go_wp2
     go_roundw
     case rel=>exact⟨k+1,by omega,by go_num,by rw[bO.out],hE.alloc _⟩
     case measure=>simp[intOf];omega
  ·have e1:l.take k=l:=List.take_of_length_le (by omega)
   rw[e1];clear e1
   go_wp2
   go_ret;exact⟨rfl,hE⟩
theorem zy7 (l:List UInt8) (k:Nat) (h:k<l.length) (b:UInt8) (hb:l[k]=b) (h0:b.toNat≠0) (h1:b.toNat≤63):
 zav (l.drop k)=(zav (l.drop (k+1+b.toNat))).map ((l.drop (k+1)).take b.toNat::·):=by
 rw[zcc l k h,hb,zbb,if_neg (fun e=>h0 (by rw[e];rfl)),if_neg (by omega),List.drop_drop]
theorem zft {l:List UInt8} {ls:List (List UInt8)} {X:Option (List (List UInt8))} (h:zav l=X.map (ls++·)) (hx:X=none):labelsOf l=none:=by
 unfold labelsOf;split
 ·rw[h,hx];rfl
 ·rfl
def zEf (r:Option (List (List UInt8))) (w:World) (e:Ending) (w':World):Prop:=∃v,e=.returned (.tuple #[v,.bool r.isSome])∧OStrs w' w.heap.size v (r.getD [])∧Ext w w'
theorem zff (l:List UInt8) (w:World) (hl:l.length≤1048576):Calls Tryz.prog 99 #[S l] w (zEf (labelsOf l) w):=by
 obtain⟨R,hR⟩:∃R,R=labelsOf l:=⟨_,rfl⟩
 rw[←hR];have HR:=Z7 hR
 clear hR;obtain⟨i0,aH,aF,aC,ax⟩:=info_parts zed
 go_enter Tryz.func99,Tryz.ntmps99
 go_wp2
 go_loopw [4,5] (fun o i wr=>∃(k:Nat) (ls:List (List UInt8)) (B:Option Addr) (d:Nat),k≤l.length∧ls.length≤k∧i=.int .i64 k∧o=.slice B ls.length d∧Own wr w.heap.size 9 1 B ls.length d (ls.map S)∧Ext w wr∧zav l=(zav (l.drop k)).map (ls++·)) (fun _ i _=>l.length - (intOf i).toNat)
 case atStart=>exact⟨0,[],none,0,by omega,by simp,rfl,rfl,Own.nil _ _ _ _,Z5 _,by simp⟩
 case round=>
  obtain⟨k,ls,B,d,hk,CU,rfl,rfl,ag,hE,fY⟩:=hrel
  obtain⟨wo,rfl⟩:∃wo:World,wo=wr:=⟨_,rfl⟩
  have sX:=Z7 fY
  clear fY;by_cases ab:k<l.length
  ·obtain⟨b,Hb,cg,dp,aB⟩:=zbu l k ab
   by_cases h0:b.toNat=0
   ·have H0:=Z7 (show b=0 from UInt8.toNat_inj.1 (by simpa using h0))
    have f1:((b.toNat:Int)==0)=true:=by rw[h0];rfl
    have f2:((b.toNat:Int)!=0)=false:=by rw[bne,f1];rfl
    have HP:Hid (zav (l.drop k)=if l.drop (k+1)=[]then some []else none):=by
     show _=_
     rw[zcc l k ab,Hb.out,H0.out,zbb,if_pos rfl]
    clear h0;by_cases he:k=l.length - 1
    ·have hd:l.drop (k+1)=[]:=List.drop_of_length_le (by omega)
     have g1:((k:Int)==(l.length:Int) - 1)=true:=by rw[beq_iff_eq];omega
     have g2:((k:Int)!=(l.length:Int) - 1)=false:=by rw[bne,g1];rfl
     have ka:=Z7 (show zav l=some ls by rw[sX.out,HP.out,if_pos hd];simp)
     clear hd he;by_cases nc:l.length≤255
     ·have HF:=Z7 (show R=some ls by rw[HR.out];unfold labelsOf;rw[if_pos nc,ka.out])
      have ul:¬255<(l.length:Int):=by omega
      go_wp2_with fail
      go_ret2
      refine⟨_,by rw[HF.out];rfl,?_,hE⟩
      rw[HF.out];exact⟨B,d,rfl,ag⟩
     ·have HF:=Z7 (show R=none by rw[HR.out];unfold labelsOf;rw[if_neg nc])
      have ul:255<(l.length:Int):=by omega
      go_wp2_with fail
      go_ret2
      refine⟨_,by rw[HF.out];rfl,?_,hE⟩
      rw[HF.out];exact⟨none,0,rfl,Own.nil _ _ _ _⟩
    ·have hd:l.drop (k+1)≠[]:=by simp;omega
     have g1:((k:Int)==(l.length:Int) - 1)=false:=by rw[beq_eq_false_iff_ne];omega
     have g2:((k:Int)!=(l.length:Int) - 1)=true:=by rw[bne,g1];rfl
     have HF:=Z7 (show R=none by rw[HR.out];exact zft sX.out (by rw[HP.out,if_neg hd]))
     clear hd he;go_wp2_with fail
     go_ret2
     refine⟨_,by rw[HF.out];rfl,?_,hE⟩
     rw[HF.out];exact⟨none,0,rfl,Own.nil _ _ _ _⟩
   ·have f1:((b.toNat:Int)==0)=false:=zbm h0
    have f2:((b.toNat:Int)!=0)=true:=by rw[bne,f1];rfl
    by_cases kM:b.toNat≤63
    ·have bA:=zy7 l k ab b Hb.out h0 kM
     have um:=Z7 bA
     clear bA;by_cases gN:k+1+b.toNat≤l.length
     ·have up:¬63<(b.toNat:Int):=by omega
      have pf:¬(l.length:Int)<(k:Int)+1+(b.toNat:Int):=by omega
      have e2:((k:Int)+1+(b.toNat:Int)).toNat=k+1+b.toNat:=by omega
      have e3:k+1+b.toNat - (k+1)=b.toNat:=by omega
      go_wp2_with(
       at_builtin
       refine zad _ rfl (.tmp 32) (.tmp 41) _ rfl w.heap.size 9 i0 _ 1 16 Tryz.underlying77 aH aF aC ax rfl (by omega) B ls.length d (ls.map S) rfl (ag.ext ((Z5 _).alloc _)) 0 _ 1 1 ([(l.drop (k+1)).take b.toNat].map S) rfl (zaw _ _ rfl _ _ 1 1 rfl) (zdg _) (by omega) (by omega) (by have:=hE.size;simp;omega) ?_
       intro A5 c5 w5 ai bq aG _)
      go_roundw
      case rel=>
       refine⟨k+1+b.toNat,ls++[(l.drop (k+1)).take b.toNat],A5,c5,by omega,by simp;omega,by go_num,by simp,?_,(hE.alloc _).then aG (Z4 _),?_⟩
       ·rw[Z6,List.map_append];exact ai
       ·rw[sX.out,um.out];cases zav (l.drop (k+1+b.toNat))<;>simp
      case measure=>simp[intOf];omega
     ·have up:¬63<(b.toNat:Int):=by omega
      have pf:(l.length:Int)<(k:Int)+1+(b.toNat:Int):=by omega
      have HF:=Z7 (show R=none by rw[HR.out];exact zft sX.out (by rw[um.out,show l.drop (k+1+b.toNat)=[]from List.drop_of_length_le (by omega),zbx];rfl))
      go_wp2_with fail
      go_ret2
      refine⟨_,by rw[HF.out];rfl,?_,hE⟩
      rw[HF.out];exact⟨none,0,rfl,Own.nil _ _ _ _⟩
    ·have up:63<(b.toNat:Int):=by omega
     have HF:=Z7 (show R=none by
      rw[HR.out];refine zft sX.out ?_;rw[zcc l k ab,Hb.out,zbb,if_neg (fun e=>h0 (by rw[e];rfl)),if_pos (by omega)])
     go_wp2_with fail
     go_ret2
     refine⟨_,by rw[HF.out];rfl,?_,hE⟩
     rw[HF.out];exact⟨none,0,rfl,Own.nil _ _ _ _⟩
  ·have HF:=Z7 (show R=none by rw[HR.out];exact zft sX.out (by rw[List.drop_of_length_le (by omega),zbx]))
   have g1:((k:Int)==(l.length:Int) - 1)=false:=by rw[beq_eq_false_iff_ne];omega
   have g2:((k:Int)!=(l.length:Int) - 1)=true:=by rw[bne,g1];rfl
   go_wp2_with fail
   go_ret2
   refine⟨_,by rw[HF.out];rfl,?_,hE⟩
   rw[HF.out];exact⟨none,0,rfl,Own.nil _ _ _ _⟩
theorem zc3 (l:List UInt8) (w:World) (hl:l.length≤1048576):Calls Tryz.prog 51 #[S l] w fun e w'=>e=.returned (.bool (may l))∧Ext w w':=by
 have HL:=Z7 (zff l w hl)
 have hm:may l=(labelsOf l).isSome:=rfl
 rw[hm];generalize labelsOf l=R at*;clear hm;go_enter Tryz.func51,Tryz.ntmps51;go_wp2_with fail;refine HL.out.mono ?_;rintro e w1 ⟨v,rfl,ho,hE⟩;go_wp2_with fail;go_ret;exact⟨rfl,hE⟩
def zdk (x:List UInt8):List UInt8:=UInt8.ofNat x.length::x
def zam (ls:List (List UInt8)):List UInt8:=ls.flatMap zdk++[0]
theorem zAe (ls:List (List UInt8)) (k:Nat) (h:k<ls.length):(ls.take (k+1)).flatMap zdk=(ls.take k).flatMap zdk++zdk ls[k]:=by
 rw[zat ls k h,List.flatMap_append,List.flatMap_cons,List.flatMap_nil,List.append_nil]
theorem zte (ls:List (List UInt8)) (h:∀x∈ls,x.length≤255):(ls.flatMap zdk).length≤ls.length*256:=by
 induction ls with
 |nil=>simp
 |cons x ls ih=>
  have h1:=h x (by simp)
  have h2:=ih (fun y hy=>h y (by simp[hy]))
  rw[List.flatMap_cons,Z6,List.length_cons];simp only[zdk,List.length_cons];rw[Nat.add_mul];omega
theorem zrk (lo:Nat) (v:Value) (ls:List (List UInt8)) (w:World) (h:Strs w lo v ls) (hb:∀x∈ls,x.length≤255) (hn:ls.length≤4096):
 Calls Tryz.prog 163 #[v] w fun e w'=>e=.returned (S (zam ls))∧Ext w w':=by
 obtain⟨A,c,rfl,h1,h2,ay⟩:=h
 unfold maxLen at h2;have fZ:=zte ls hb
 obtain⟨R,hR⟩:∃R,R=ls.flatMap zdk++[0]:=⟨_,rfl⟩
 rw[show zam ls=R from hR.symm]
 have HR:=Z7 hR
 clear hR;go_enter Tryz.func163,Tryz.ntmps163
 go_wp2
 go_loopw [3,4] (fun o i wr=>∃k:Nat,k≤ls.length∧i=.int .i64 k∧o=S ((ls.take k).flatMap zdk)∧Ext w wr) (fun _ i _=>ls.length - (intOf i).toNat)
 case atStart=>exact⟨0,by omega,rfl,rfl,Z5 _⟩
 case round=>
  obtain⟨k,hk,rfl,rfl,hE⟩:=hrel
  obtain⟨wo,rfl⟩:∃wo:World,wo=wr:=⟨_,rfl⟩
  have kP:((ls.take k).flatMap zdk).length≤1048576:=by
   have:=zte (ls.take k) (fun x hx=>hb x (List.mem_of_mem_take hx))
   have h3:(ls.take k).length≤ls.length:=by simp;omega
   omega
  by_cases ab:k<ls.length
  ·obtain⟨b,off,rfl,_,az,hc⟩:=ay.2 (by omega)
   have fv:=hc k (S ls[k]) (by simp[Z3 ab])
   have gF:=hb ls[k] (List.getElem_mem ab)
   have bO:=Z7 (zAe ls k ab)
   generalize ls[k]=x at*;rw[←hE.cell (p:=⟨b,_,none⟩) az]at fv
   have aU:b<wo.heap.size:=Z1 az hE.size
   have gD:(convert 110 9 (.slice (some ⟨wo.heap.size,0,none⟩) 1 1)).run Tryz.prog (wo.alloc (.cells #[.int .u8 (x.length:Int)] 5)).drew=.ok (S [UInt8.ofNat x.length]) (wo.alloc (.cells #[.int .u8 (x.length:Int)] 5)).drew:=zsb wo.drew wo.heap.size rfl (x.length:Int) (UInt8.ofNat x.length) (by simp;omega)
   generalize (ls.take k).flatMap zdk=T at*;have iJ:(k:Int)<(ls.length:Int):=by omega
   clear hc ay
   go_wp2
   go_region
   go_wp2
   go_roundw
   case rel=>exact⟨k+1,by omega,by go_num,by rw[bO.out];rfl,(hE.alloc _).drew⟩
   case measure=>simp[intOf];omega
  ·have e1:ls.take k=ls:=List.take_of_length_le (by omega)
   rw[e1]at kP ⊢;clear e1;generalize ls.flatMap zdk=T at*
   go_wp2
   go_ret;exact⟨by rw[HR.out];rfl,hE⟩
theorem zne:∀(n:Nat) (l:List UInt8) (ls:List (List UInt8)),l.length≤n→zav l=some ls→l=zam ls∧∀x∈ls,0<x.length∧x.length≤63:=by
 intro n
 induction n with
 |zero=>
  intro l ls hn h;have:l=[]:=List.eq_nil_of_length_eq_zero (by omega)
  subst this;rw[zbx]at h;cases h
 |succ n ih=>
  intro l ls hn h;rcases l with _|⟨b,r⟩
  ·rw[zbx]at h;cases h
  ·rw[zbb]at h;split at h
   ·rename_i hb;split at h
    ·rename_i hr;injection h with h
     subst h hb hr;exact⟨rfl,by simp⟩
    ·cases h
   ·rename_i hb;split at h
    ·cases h
    ·rename_i kM;rw[Option.map_eq_some_iff]at h;obtain⟨ls',hp,rfl⟩:=h
     have iK:b.toNat<r.length:=by
      rcases Nat.lt_or_ge b.toNat r.length with h'|h'
      ·exact h'
      ·rw[List.drop_of_length_le h',zbx]at hp;cases hp
     have gL:0<b.toNat:=Nat.pos_of_ne_zero (fun e=>hb (UInt8.toNat_inj.1 (by simpa using e)))
     obtain⟨h1,h2⟩:=ih _ _ (by simp at hn ⊢;omega) hp
     have cv:(r.take b.toNat).length=b.toNat:=by simp;omega
     refine⟨?_,fun x hx=>?_⟩
     ·unfold zam at h1 ⊢;rw[List.flatMap_cons,List.append_assoc,←h1];unfold zdk;rw[cv,UInt8.ofNat_toNat,List.cons_append,List.take_append_drop]
     ·rcases List.mem_cons.1 hx with rfl|h
      ·rw[cv];omega
      ·exact h2 x h
theorem zbv {l:List UInt8} {ls:List (List UInt8)} (h:labelsOf l=some ls):l.length≤255∧l=zam ls∧∀x∈ls,0<x.length∧x.length≤63:=by
 unfold labelsOf at h;split at h
 ·rename_i hl;exact⟨hl,zne _ l ls (Z4 _) h⟩
 ·cases h
theorem zxz {b:UInt8} (h:b.toNat≤63):lowB b=b:=by unfold lowB;rw[if_neg (by omega)]
theorem zhd (ls:List (List UInt8)) (h:∀x∈ls,x.length≤63):low (zam ls)=zam (ls.map low):=by
 unfold zam
 induction ls with
 |nil=>rfl
 |cons x ls ih=>
  have h1:=h x (by simp)
  have h2:=ih (fun y hy=>h y (by simp[hy]))
  rw[List.flatMap_cons,List.append_assoc,List.map_cons,List.flatMap_cons,List.append_assoc,←h2];unfold low zdk;rw[List.map_append,List.map_cons,zxz (by simp;omega),List.length_map]
theorem zee {l:List UInt8} {ls:List (List UInt8)} (h:labelsOf l=some ls):ls.length≤255:=by
 obtain⟨h1,h2,h3⟩:=zbv h
 have:ls.length≤(ls.flatMap zdk).length:=by
  clear h h1 h2 h3
  induction ls with
  |nil=>simp
  |cons x ls ih=>
   rw[List.flatMap_cons,Z6,List.length_cons];have:(zdk x).length=x.length+1:=rfl
   omega
 have h4:(zam ls).length≤255:=by rw[←h2];exact h1
 unfold zam at h4;rw[Z6]at h4;omega
theorem zn7 {l:List UInt8} {ls:List (List UInt8)} (h:labelsOf l=some ls):fold l=zam (ls.map low):=by
 obtain⟨_,h2,h3⟩:=zbv h
 unfold fold may;rw[h,if_pos (by rfl)]
 conv=>lhs;rw[h2]
 exact zhd ls (fun x hx=>(h3 x hx).2)
theorem zA1 {l:List UInt8} (h:labelsOf l=none):fold l=[]:=by unfold fold may;rw[h];rfl
theorem zgu (l:List UInt8) (w:World) (hl:l.length≤1048576):Calls Tryz.prog 101 #[S l] w fun e w'=>e=.returned (S (fold l))∧Ext w w':=by
 have HL:=Z7 (zff l w hl)
 obtain⟨i0,aH,aF,aC,ax⟩:=info_parts zed
 rcases hR:labelsOf l with _|ls
 ·rw[hR]at HL;rw[zA1 hR];clear hR;go_enter Tryz.func101,Tryz.ntmps101;go_wp2_with fail;refine HL.out.mono ?_;rintro e w1 ⟨v,rfl,ho,hE⟩;dsimp only[Option.isSome];go_wp2_with fail;go_ret;exact⟨rfl,hE⟩
 ·rw[hR]at HL;rw[zn7 hR];have hb:=(zbv hR).2.2
  have aq:=zee hR
  clear hR;go_enter Tryz.func101,Tryz.ntmps101;go_wp2_with fail;refine HL.out.mono ?_;rintro e w1 ⟨v,rfl,ho,ae⟩;dsimp only[Option.isSome,Option.getD]at ho ⊢;obtain⟨A,c,rfl,fy⟩:=ho
  have ay:=fy.rd
  clear fy;go_wp2_with fail
  go_loopw [5,6] (fun o i wr=>∃(k:Nat) (B:Option Addr) (d:Nat),k≤ls.length∧i=.int .i64 k∧o=.slice B k d∧Own wr w1.heap.size 9 1 B k d (((ls.take k).map low).map S)∧Ext w1 wr) (fun _ i _=>ls.length - (intOf i).toNat)
  case atStart=>exact⟨0,none,0,by omega,rfl,rfl,Own.nil _ _ _ _,Z5 _⟩
  case round=>
   obtain⟨k,B,d,hk,rfl,rfl,ag,hE⟩:=hrel
   obtain⟨wo,rfl⟩:∃wo:World,wo=wr:=⟨_,rfl⟩
   by_cases ab:k<ls.length
   ·obtain⟨b,off,rfl,_,az,hc⟩:=ay.2 (by omega)
    have fv:=hc k (S ls[k]) (by simp[Z3 ab])
    have gF:=(hb ls[k] (List.getElem_mem ab)).2
    have bO:=Z7 (zat ls k ab)
    generalize ls[k]=x at*;rw[←hE.cell (p:=⟨b,_,none⟩) az]at fv
    have aU:b<wo.heap.size:=Z1 az hE.size
    have iJ:(k:Int)<(ls.length:Int):=by omega
    clear hc ay;go_wp2_with(first
     |(go_at_call 162;refine(zqh x wo (by omega)).mono ?_;rintro e w2 ⟨rfl,ah⟩)
     |(at_builtin
       refine zad _ rfl (.tmp 20) (.tmp 26) _ rfl w1.heap.size 9 i0 _ 1 16 Tryz.underlying77 aH aF aC ax rfl (by omega) B k d (((ls.take k).map low).map S) rfl ((ag.ext ah).ext ((Z5 _).alloc _)) 0 _ 1 1 ([low x].map S) rfl (zaw _ _ rfl _ _ 1 1 rfl) (zdg _) (by omega) (by omega) (by have:=(hE.trans ah).size;simp;omega) ?_
       intro A5 c5 w5 ai bq aG _))
    go_roundw
    case rel=>
     refine⟨k+1,A5,c5,by omega,by go_num,rfl,?_,((hE.trans ah).alloc _).then aG (Z4 _)⟩
     rw[bO.out,List.map_append,List.map_append];exact ai
    case measure=>simp[intOf];omega
   ·obtain rfl:k=ls.length:=by omega
    rw[List.take_length]at ag;have aZ:Strs wo w1.heap.size (.slice B ls.length d) (ls.map low):=⟨B,d,by simp,by have:=ag.cap.1;simpa using this,ag.cap.2,by have:=ag.rd;simpa using this⟩
    go_wp2_with fail;refine(zrk _ _ _ wo aZ (fun x hx=>?_) (by simp;omega)).mono ?_
    ·obtain⟨y,hy,rfl⟩:=List.mem_map.1 hx
     rw[zbg];have:=hb y hy;omega
    ·rintro e w6 ⟨rfl,aw⟩;go_wp2_with fail;go_ret;exact⟨rfl,(ae.trans hE).trans aw⟩
theorem zl4 (a b:List UInt8) (w:World) (ha:a.length≤1048576) (hb:b.length≤1048576):
 Calls Tryz.prog 120 #[S a,S b] w fun e w'=>e=.returned (.bool (sameN a b))∧Ext w w':=by
 have Hs:=Z7 (show sameN a b=(may a&&may b&&(low a==low b))from rfl)
 by_cases h1:may a=true
 ·by_cases h2:may b=true
  ·have Ha:=Z7 (show fold a=low a by unfold fold;rw[if_pos h1])
   have Hb:=Z7 (show fold b=low b by unfold fold;rw[if_pos h2])
   go_enter Tryz.func120,Tryz.ntmps120;go_wp2_with fail;refine(zc3 _ _ ha).mono ?_;rintro e w1 ⟨rfl,ae⟩;go_wp2_with fail;refine(zc3 _ _ hb).mono ?_;rintro e w2 ⟨rfl,ah⟩;go_wp2_with fail;refine(zgu _ _ ha).mono ?_;rintro e w3 ⟨rfl,ao⟩;go_wp2_with fail;refine(zgu _ _ hb).mono ?_;rintro e w4 ⟨rfl,aL⟩;go_wp2_with fail;go_ret;exact⟨zar (by rw[Hs.out,h1,h2,Ha.out,Hb.out];simp),((ae.trans ah).trans ao).trans aL⟩
  ·have sV:may b=false:=by simpa using h2
   clear h2;go_enter Tryz.func120,Tryz.ntmps120;go_wp2_with fail;refine(zc3 _ _ ha).mono ?_;rintro e w1 ⟨rfl,ae⟩;go_wp2_with fail;refine(zc3 _ _ hb).mono ?_;rintro e w2 ⟨rfl,ah⟩;go_wp2_with fail;go_ret;exact⟨zar (by rw[Hs.out,h1,sV];rfl),ae.trans ah⟩
 ·have iD:may a=false:=by simpa using h1
  clear h1;go_enter Tryz.func120,Tryz.ntmps120;go_wp2_with fail;refine(zc3 _ _ ha).mono ?_;rintro e w1 ⟨rfl,ae⟩;go_wp2_with fail;go_ret;exact⟨zar (by rw[Hs.out,iD];rfl),ae⟩
abbrev bl (a b:List UInt8):Bool:=Op.bytesLess a b
def zb4:List (List UInt8)→List (List UInt8)→Int
 |[],[]=>0
 |[],_::_=> -1
 |_::_,[]=>1
 |a::x,b::y=>if bl a b then -1 else if bl b a then 1 else zb4 x y
def cmpN (a b:List UInt8):Int:=
 match labelsOf a,labelsOf b with
 |some x,some y=>zb4 (x.map low).reverse (y.map low).reverse
 |_,_=>0
theorem zfj (a b:List UInt8) (x y:List (List UInt8)):zb4 (a::x) (b::y)=if bl a b then -1 else if bl b a then 1 else zb4 x y:=rfl
theorem zzm (a:List UInt8):bl a a=false:=by
 induction a with
 |nil=>rfl
 |cons x a ih=>simp only[bl,Op.bytesLess]at*;simp[ih]
theorem zmo (a b:List UInt8) (h:bl a b=true):bl b a=false∧a≠b:=by
 induction a generalizing b with
 |nil=>cases b<;>simp_all [bl,Op.bytesLess]
 |cons x a ih=>
  cases b with
  |nil=>simp[bl,Op.bytesLess]at h
  |cons y b=>
   simp only[bl,Op.bytesLess,Bool.or_eq_true,decide_eq_true_eq,Bool.and_eq_true,beq_iff_eq]at h;rcases h with h|⟨rfl,h⟩
   ·have h1:¬y<x:=UInt8.lt_asymm h
    have h2:y≠x:=fun e=>by subst e;exact(UInt8.lt_irrefl _) h
    refine⟨?_,fun e=>h2 (by injection e with e;exact e.symm)⟩
    simp[bl,Op.bytesLess,h1,h2]
   ·obtain⟨h1,h2⟩:=ih b h
    refine⟨?_,fun e=>h2 (by injection e)⟩
    simp[bl,Op.bytesLess]at h1 ⊢;exact h1
theorem zew (a b:List UInt8) (h1:bl a b=false) (h2:bl b a=false):a=b:=by
 induction a generalizing b with
 |nil=>cases b<;>simp_all [bl,Op.bytesLess]
 |cons x a ih=>
  cases b with
  |nil=>simp[bl,Op.bytesLess]at h2
  |cons y b=>
   simp only[bl,Op.bytesLess,Bool.or_eq_false_iff,decide_eq_false_iff_not,Bool.and_eq_false_iff]at h1 h2;have ey:x=y:=UInt8.le_antisymm (UInt8.not_lt.1 h2.1) (UInt8.not_lt.1 h1.1)
   subst ey;rw[ih b (by simpa using h1.2) (by simpa using h2.2)]
theorem zgv (x:List (List UInt8)) (k:Nat) (h:k<x.length):(x.map low).reverse.drop k=low (x[x.length - 1 - k])::(x.map low).reverse.drop (k+1):=by
 rw[List.drop_eq_getElem_cons (by simp;exact h)]
 congr 1;rw[List.getElem_reverse];simp
theorem zvg (a b:List UInt8) (w:World) (ha:a.length≤1048576) (hb:b.length≤1048576):
 Calls Tryz.prog 164 #[S a,S b] w fun e w'=>e=.returned (.int .i64 (cmpN a b))∧Ext w w':=by
 have HA:=Z7 (fun W=>zff a W ha)
 have HB:=Z7 (fun W=>zff b W hb)
 have hN:cmpN a b=match labelsOf a,labelsOf b with|some x,some y=>zb4 (x.map low).reverse (y.map low).reverse|_,_=>0:=rfl
 obtain⟨R,hR⟩:∃R,R=cmpN a b:=⟨_,rfl⟩
 rw[←hR];rw[←hR]at hN;clear hR;rcases hx:labelsOf a with _|x
 ·rw[hx]at HA hN;have HN:=Z7 (show R=0 from hN)
  clear hN hx;go_enter Tryz.func164,Tryz.ntmps164;go_wp2_with fail;refine(HA.out w).mono ?_;rintro e w1 ⟨v1,rfl,bm,ae⟩;go_wp2_with fail;refine(HB.out w1).mono ?_;rintro e w2 ⟨v2,rfl,aI,ah⟩;simp only[Option.isSome_none,Option.isSome_some];go_wp2_with fail;go_ret;exact⟨by rw[HN.out];rfl,ae.trans ah⟩
 rcases hy:labelsOf b with _|y
 ·rw[hy]at HB hN;rw[hx]at HA hN;have HN:=Z7 (show R=0 from hN)
  clear hN hx hy;go_enter Tryz.func164,Tryz.ntmps164;go_wp2_with fail;refine(HA.out w).mono ?_;rintro e w1 ⟨v1,rfl,bm,ae⟩;go_wp2_with fail;refine(HB.out w1).mono ?_;rintro e w2 ⟨v2,rfl,aI,ah⟩;simp only[Option.isSome_none,Option.isSome_some];go_wp2_with fail;go_ret;exact⟨by rw[HN.out];rfl,ae.trans ah⟩
 have gF:=zee hx
 have ER:=zee hy
 have xX:=(zbv hx).2.2
 have ES:=(zbv hy).2.2
 rw[hy]at HB hN;rw[hx]at HA hN;have HN:=Z7 (show R=zb4 (x.map low).reverse (y.map low).reverse from hN)
 clear hN hx hy;go_enter Tryz.func164,Tryz.ntmps164;go_wp2_with fail;refine(HA.out w).mono ?_;rintro e w1 ⟨v1,rfl,bm,ae⟩;go_wp2_with fail;refine(HB.out w1).mono ?_;rintro e w2 ⟨v2,rfl,aI,ah⟩;dsimp only[Option.isSome,Option.getD]at bm aI ⊢;obtain⟨A1,c1,rfl,lu⟩:=bm.ext ah
 obtain⟨A2,c2,rfl,iZ⟩:=aI
 have kb:=lu.rd
 have eM:=iZ.rd
 clear bm lu iZ;go_wp2_with fail
 go_loopw [9] (fun i wr=>∃k:Nat,k≤x.length∧k≤y.length∧i=.int .i64 ((k:Int)+1)∧R=zb4 ((x.map low).reverse.drop k) ((y.map low).reverse.drop k)∧Ext w2 wr) (fun i _=>x.length+1 - (intOf i).toNat)
 case atStart=>exact⟨0,by omega,by omega,rfl,by rw[HN.out];rfl,Z5 _⟩
 case round=>
  obtain⟨k,iC,lv,rfl,hrel,hE⟩:=hrel
  obtain⟨wo,rfl⟩:∃wo:World,wo=wr:=⟨_,rfl⟩
  have HR:=Z7 hrel
  clear hrel HN;by_cases eT:k<x.length
  ·by_cases kQ:k<y.length
   ·obtain⟨bx,ox,rfl,_,sY,uq⟩:=kb.2 (by omega)
    obtain⟨by_,oy,rfl,_,bw,ur⟩:=eM.2 (by omega)
    have cx:=uq (x.length - 1 - k) (S x[x.length - 1 - k]) (by simp)
    have cy:=ur (y.length - 1 - k) (S y[y.length - 1 - k]) (by simp)
    rw[←hE.cell (p:=⟨bx,_,none⟩) sY]at cx
    rw[←hE.cell (p:=⟨by_,_,none⟩) bw]at cy
    have xY:=Z7 (zgv x k eT)
    have zp:=Z7 (zgv y k kQ)
    have JC:=(xX x[x.length - 1 - k] (List.getElem_mem _)).2
    have JD:=(ES y[y.length - 1 - k] (List.getElem_mem _)).2
    generalize x[x.length - 1 - k]=s at*;generalize y[y.length - 1 - k]=t at*;have qx:bx<wo.heap.size:=Z1 sY hE.size
    have qy:by_<wo.heap.size:=Z1 bw hE.size
    rw[show x.length - 1 - k=x.length - (k+1)by omega]at cx
    rw[show y.length - 1 - k=y.length - (k+1)by omega]at cy
    clear uq ur kb eM;go_wp2_with fail;have p1:IntKind.i64.wrap ((x.length:Int) - ((k:Int)+1))=(x.length:Int) - ((k:Int)+1):=IntWalk.i64_in _ (by omega)
    have p2:(0:Int)≤(x.length:Int) - ((k:Int)+1):=by omega
    have p3:(x.length:Int) - ((k:Int)+1)<(x.length:Int):=by omega
    have p4:((x.length:Int) - ((k:Int)+1)).toNat=x.length - (k+1):=by omega
    have q1:IntKind.i64.wrap ((y.length:Int) - ((k:Int)+1))=(y.length:Int) - ((k:Int)+1):=IntWalk.i64_in _ (by omega)
    have q2:(0:Int)≤(y.length:Int) - ((k:Int)+1):=by omega
    have q3:(y.length:Int) - ((k:Int)+1)<(y.length:Int):=by omega
    have q4:((y.length:Int) - ((k:Int)+1)).toNat=y.length - (k+1):=by omega
    have ss:s.length≤1048576:=by omega
    have tt:t.length≤1048576:=by omega
    go_region_held3 (fun W=>W.cell? ⟨bx,ox+(x.length - (k+1)),none⟩=some (S s)∧W.cell? ⟨by_,oy+(y.length - (k+1)),none⟩=some (S t)) (first|exact⟨cx,cy⟩|exact⟨(ao.cell (p:=⟨bx,_,none⟩) qx).trans cx,(ao.cell (p:=⟨by_,_,none⟩) qy).trans cy⟩|exact⟨(aL.cell (p:=⟨bx,_,none⟩) (Z1 qx ao.size)).trans ((ao.cell (p:=⟨bx,_,none⟩) qx).trans cx),(aL.cell (p:=⟨by_,_,none⟩) (Z1 qy ao.size)).trans ((ao.cell (p:=⟨by_,_,none⟩) qy).trans cy)⟩) (first|(go_at_call_of 162 (S s);refine(zqh s _ ss).mono ?_;rintro e w3 ⟨rfl,ao⟩)|(go_at_call_of 162 (S t);refine(zqh t _ tt).mono ?_;rintro e w4 ⟨rfl,aL⟩))
    have aO:Ext w2 w4:=hE.trans ((Ext.of_drewN 1 ao).trans aL)
    clear p1 p2 p3 p4 q1 q2 q3 q4;rw[xY.out,zp.out]at HR;generalize low s=ls at*;generalize low t=lt at*;by_cases h1:Op.bytesLess ls lt=true
    ·have HF:=Z7 (show R= -1 by rw[HR.out,zfj,if_pos h1])
     go_wp2_with fail;go_ret;exact⟨by rw[HF.out];rfl,(ae.trans ah).trans aO⟩
    ·have iD:Op.bytesLess ls lt=false:=by simpa using h1
     clear h1;by_cases h2:Op.bytesLess lt ls=true
     ·have HF:=Z7 (show R=1 by rw[HR.out,zfj,if_neg (by simp[bl,iD]),if_pos h2])
      have h3:(ls==lt)=false:=by rw[beq_eq_false_iff_ne];exact fun e=>(zmo _ _ h2).2 e.symm
      clear h2;go_wp2_with fail;go_ret;exact⟨by rw[HF.out];rfl,(ae.trans ah).trans aO⟩
     ·have sV:Op.bytesLess lt ls=false:=by simpa using h2
      have HF:=Z7 (show R=zb4 ((x.map low).reverse.drop (k+1)) ((y.map low).reverse.drop (k+1))by rw[HR.out,zfj,if_neg (by simp[bl,iD]),if_neg h2])
      have h3:(ls==lt)=true:=by rw[beq_iff_eq];exact zew _ _ iD sV
      clear h2 sV;go_wp2_with fail;go_roundw
      case rel=>exact⟨k+1,by omega,by omega,by go_num,HF.out,aO⟩
      case measure=>simp[intOf];omega
   ·have qi:(y.length:Int)<(k:Int)+1:=by omega
    have qz:k=y.length:=by omega
    have HF:=Z7 (show R=1 by
     rw[HR.out,show(y.map low).reverse.drop k=[]from List.drop_of_length_le (by simp;omega),zgv x k eT];rfl)
    clear qz HR;go_wp2_with fail;go_ret;exact⟨by rw[HF.out];rfl,(ae.trans ah).trans hE⟩
  ·have qi:(x.length:Int)<(k:Int)+1:=by omega
   by_cases kQ:k<y.length
   ·have HF:=Z7 (show R= -1 by
     rw[HR.out,show(x.map low).reverse.drop k=[]from List.drop_of_length_le (by simp;omega),zgv y k kQ];rfl)
    clear HR;have CV:x.length<y.length:=by omega
    go_wp2_with fail;go_ret;exact⟨by rw[HF.out];rfl,(ae.trans ah).trans hE⟩
   ·have HF:=Z7 (show R=0 by
     rw[HR.out,show(x.map low).reverse.drop k=[]from List.drop_of_length_le (by simp;omega),show(y.map low).reverse.drop k=[]from List.drop_of_length_le (by simp;omega)];rfl)
    clear HR;have CV:¬x.length<y.length:=by omega
    have ET:¬y.length<x.length:=by omega
    go_wp2_with fail;go_ret;exact⟨by rw[HF.out];rfl,(ae.trans ah).trans hE⟩
def zej:Value→Nat| .string s=>s.size|_=>0
def zq7 (o:Option Nat):Int:=match o with|some k=>k|none=> -1
structure RfInv (msg:List UInt8) (s0 s:RdSt):Prop where
 pos:s.pos≤msg.length
 out:s.out.length≤254
 lim:s.lim≤msg.length
 nxb:∀k,s.nx=some k→k≤msg.length
 eq:zbc msg s0=zbc msg s
theorem zu5 (msg:List UInt8) (pos:Nat) (w:World) (hl:msg.length≤1048576) (hp:pos≤msg.length):
 Calls Tryz.prog 167 #[S msg,.int .i64 pos] w fun e w'=>e=.returned (.tuple #[S (readN msg pos).1,.int .i64 (readN msg pos).2.1,.int .i64 (readN msg pos).2.2])∧w=w':=by
 obtain⟨R,hR⟩:∃R,R=readN msg pos:=⟨_,rfl⟩
 rw[←hR];have Hn:Hid (R=zbc msg ⟨pos,pos,none,[]⟩):=hR
 clear hR;have pg:¬(msg.length:Int)<(pos:Int):=by omega
 go_enter Tryz.func167,Tryz.ntmps167;go_wp2_with fail
 go_loop [1,7,8,9] (fun p o nx lim=>∃s:RdSt,p=.int .i64 s.pos∧o=S s.out∧nx=.int .i64 (zq7 s.nx)∧lim=.int .i64 s.lim∧RfInv msg ⟨pos,pos,none,[]⟩ s) (fun _ o _ lim=>(intOf lim).toNat*300+(256 - zej o))
 case atStart=>exact⟨⟨pos,pos,none,[]⟩,rfl,rfl,rfl,rfl,⟨hp,by simp,hp,by simp,rfl⟩⟩
 case round=>
  obtain⟨⟨pos',lim,nx,out⟩,rfl,rfl,rfl,rfl,hI⟩:=hrel
  dsimp only at hI ⊢;have nf:out.length≤254:=hI.out
  have qg:lim≤msg.length:=hI.lim
  have iV:pos'≤msg.length:=hI.pos
  rcases hb:msg[pos']? with _|b
  ·have Hb:=Z7 hb
   have cS:msg.length≤pos':=List.getElem?_eq_none_iff.1 hb
   have zr:(msg.length:Int)≤(pos':Int):=by omega
   clear hb;go_wp2_with fail
   go_ret3
   refine⟨?_,rfl⟩;rw[Hn.out,hI.eq,zmb _ _ Hb.out];rfl
  have Hb:=Z7 hb
  obtain⟨ab,o8⟩:=List.getElem?_eq_some_iff.1 hb
  clear hb;obtain⟨b',CW,cg,dp,aB⟩:=zbu msg pos' ab
  obtain rfl:b=b':=by rw[←o8];exact CW.out
  have zt:=Z7 o8
  clear o8 CW;by_cases h0:b.toNat=0
  ·have H0:=Z7 (show b=0 from UInt8.toNat_inj.1 (by simpa using h0))
   have f2:((b.toNat:Int)==0)=true:=by rw[h0];rfl
   clear h0;rcases nx with _|nx
   ·dsimp only[zq7]at hI ⊢;go_wp2_with fail
    go_ret3
    refine⟨?_,rfl⟩;rw[Hn.out,hI.eq,zgk _ _ (by rw[H0.out]at Hb;exact Hb.out)];rfl
   ·dsimp only[zq7]at hI ⊢;go_wp2_with fail
    go_ret3
    refine⟨?_,rfl⟩;rw[Hn.out,hI.eq,zgk _ _ (by rw[H0.out]at Hb;exact Hb.out)];rfl
  have f2:((b.toNat:Int)==0)=false:=zbm h0
  by_cases nv:b.toNat<192
  ·have g192:¬(192:Int)≤(b.toNat:Int):=by omega
   by_cases h1:b.toNat<64
   ·have g64:¬(64:Int)≤(b.toNat:Int):=by omega
    by_cases h2:msg.length<pos'+1+b.toNat
    ·have g2:(msg.length:Int)<(pos':Int)+1+(b.toNat:Int):=by omega
     go_wp2_with fail
     go_ret3
     refine⟨?_,rfl⟩;rw[Hn.out,hI.eq,zji _ _ b Hb.out h0 h1 h2];rfl
    ·have g2:¬(msg.length:Int)<(pos':Int)+1+(b.toNat:Int):=by omega
     have e2:((pos':Int)+1+(b.toNat:Int)).toNat=pos'+1+b.toNat:=by omega
     have e3:pos'+1+b.toNat - pos'=b.toNat+1:=by omega
     have bX:((msg.drop pos').take (b.toNat+1)).length=b.toNat+1:=by simp;omega
     have ph:(msg.drop pos').take (b.toNat+1)=b::(msg.drop (pos'+1)).take b.toNat:=by rw[zcc msg pos' ab,zt.out];rfl
     have pi:=Z7 ph
     have dE:=Z7 bX
     clear ph bX;by_cases h3:255<out.length+1+b.toNat+1
     ·go_wp2_with fail
      go_ret3
      refine⟨?_,rfl⟩;rw[Hn.out,hI.eq,zkw _ _ b Hb.out h0 h1 h2 h3];rfl
     ·have HL:=Z7 (zh2 msg ⟨pos',lim,nx,out⟩ b Hb.out h0 h1 h2 h3)
      go_wp2_with fail;go_round
      case rel=>
       refine⟨⟨pos'+1+b.toNat,lim,nx,out++b::(msg.drop (pos'+1)).take b.toNat⟩,by go_num,?_,rfl,rfl,⟨by dsimp only;omega,?_,qg,hI.nxb,hI.eq.trans HL.out⟩⟩
       ·rw[pi.out]
       ·dsimp only;rw[←pi.out,Z6,dE.out];omega
      case measure=>
       simp only[intOf,zej,zcy];simp;omega
   ·have g64:(64:Int)≤(b.toNat:Int):=by omega
    go_wp2_with fail
    go_ret3
    refine⟨?_,rfl⟩;rw[Hn.out,hI.eq,zku _ _ b Hb.out h0 h1 nv];rfl
  ·have g192:(192:Int)≤(b.toNat:Int):=by omega
   rcases hc:msg[pos'+1]? with _|c'
   ·have Hc:=Z7 hc
    have cS:msg.length≤pos'+1:=List.getElem?_eq_none_iff.1 hc
    have zr:(msg.length:Int)≤(pos':Int)+1:=by omega
    clear hc;go_wp2_with fail
    go_ret3
    refine⟨?_,rfl⟩;rw[Hn.out,hI.eq,zma _ _ b Hb.out h0 nv Hc.out];rfl
   have Hc:=Z7 hc
   obtain⟨ce,CX⟩:=List.getElem?_eq_some_iff.1 hc
   clear hc;obtain⟨c'',CY,CZ,EU,JE⟩:=zbu msg (pos'+1) ce
   obtain rfl:c'=c'':=by rw[←CX];exact CY.out
   clear CX CY;have EV:¬(msg.length:Int)≤(pos':Int)+1:=by omega
   have et:((pos':Int)+1).toNat=pos'+1:=by omega
   by_cases h3:lim≤(b.toNat - 192)*256+c'.toNat
   ·have zd:(lim:Int)≤((b.toNat:Int) - 192)*256+(c'.toNat:Int):=by omega
    rcases nx with _|nx
    all_goals
     dsimp only[zq7]at hI ⊢;go_wp2_with fail
     go_ret3
     refine⟨?_,rfl⟩;rw[Hn.out,hI.eq,zkx _ _ b Hb.out h0 nv c' Hc.out h3];rfl
   ·have zd:¬(lim:Int)≤((b.toNat:Int) - 192)*256+(c'.toNat:Int):=by omega
    have hJ:=zkv msg ⟨pos',lim,nx,out⟩ b Hb.out h0 nv c' Hc.out h3
    have HJ:=Z7 hJ
    clear hJ;have e5:((b.toNat:Int) - 192)*256+(c'.toNat:Int)=(((b.toNat - 192)*256+c'.toNat:Nat):Int):=by omega
    have E5:=Z7 e5
    clear e5;rcases nx with _|nx
    ·dsimp only[zq7]at hI ⊢;go_wp2_with fail;go_round
     case rel=>
      refine⟨⟨(b.toNat - 192)*256+c'.toNat,(b.toNat - 192)*256+c'.toNat,some (pos'+2),out⟩,by rw[E5.out],rfl,by go_num,by rw[E5.out],⟨by dsimp only;omega,nf,by dsimp only;omega,?_,hI.eq.trans HJ.out⟩⟩
      intro k hk;dsimp only at hk;injection hk with hk
      omega
     case measure=>
      simp only[intOf,zej,zcy];simp;omega
    ·dsimp only[zq7]at hI ⊢;go_wp2_with fail;go_round
     case rel=>
      exact⟨⟨(b.toNat - 192)*256+c'.toNat,(b.toNat - 192)*256+c'.toNat,some nx,out⟩,by rw[E5.out],rfl,rfl,by rw[E5.out],⟨by dsimp only;omega,nf,by dsimp only;omega,hI.nxb,hI.eq.trans HJ.out⟩⟩
     case measure=>
      simp only[intOf,zej,zcy];simp;omega
structure Pr where
 s:List UInt8
 nm:Bool
def Pr.cells (p:Pr):List Value:=[S p.s,.bool p.nm]
def layoutOf (k:Int):Nat×Nat×Nat×Bool:=
 if k=1 then(4,0,0,true)else if k=28 then(16,0,0,true)else if k=2∨k=5∨k=12 then(0,1,0,true)
 else if k=15 then(2,1,0,true)else if k=6 then(0,2,20,true)else if k=33 then(6,1,0,true)else(0,0,0,false)
def zan (msg:List UInt8) (behind:Nat):Nat→Nat→List Pr→List Pr×Nat
 |0,pos,acc=>if msg.length - pos<behind then([],4)else if behind<msg.length - pos then([],3)else(acc++[⟨msg.drop pos,false⟩],0)
 |n+1,pos,acc=>if(readN msg pos).2.2≠0 then([],(readN msg pos).2.2)else zan msg behind n (readN msg pos).2.1 (acc++[⟨(readN msg pos).1,true⟩])
def refPieces (msg:List UInt8) (pos:Nat) (k:Int):List Pr×Nat:=
 if k=41 then([],3)
 else if k=16 then(if zbq (msg.drop pos)then([⟨msg.drop pos,false⟩],0)else([],4))
 else if(layoutOf k).2.2.2=false then([⟨msg.drop pos,false⟩],0)
 else if msg.length - pos<(layoutOf k).1 then([],4)
 else zan msg (layoutOf k).2.2.1 (layoutOf k).2.1 (pos+(layoutOf k).1) [⟨(msg.drop pos).take (layoutOf k).1,false⟩]
theorem zys (k:Int) (w:World):Calls Tryz.prog 218 #[.int .u16 k] w fun e w'=>e=.returned (.tuple #[.int .i64 (layoutOf k).1,.int .i64 (layoutOf k).2.1,.int .i64 (layoutOf k).2.2.1,.bool (layoutOf k).2.2.2])∧w=w':=by
 by_cases h1:k=1
 ·subst h1;go_enter Tryz.func218,Tryz.ntmps218
  go_wp2
  refine bodyPost_ret (zax rfl _ _ _) rfl ?_;exact⟨rfl,rfl⟩
 by_cases iG:k=28
 ·subst iG;go_enter Tryz.func218,Tryz.ntmps218
  go_wp2
  refine bodyPost_ret (zax rfl _ _ _) rfl ?_;exact⟨rfl,rfl⟩
 by_cases h2:k=2
 ·subst h2;go_enter Tryz.func218,Tryz.ntmps218
  go_wp2
  refine bodyPost_ret (zax rfl _ _ _) rfl ?_;exact⟨rfl,rfl⟩
 by_cases h5:k=5
 ·subst h5;go_enter Tryz.func218,Tryz.ntmps218
  go_wp2
  refine bodyPost_ret (zax rfl _ _ _) rfl ?_;exact⟨rfl,rfl⟩
 by_cases dq:k=12
 ·subst dq;go_enter Tryz.func218,Tryz.ntmps218
  go_wp2
  refine bodyPost_ret (zax rfl _ _ _) rfl ?_;exact⟨rfl,rfl⟩
 by_cases eO:k=15
 ·subst eO;go_enter Tryz.func218,Tryz.ntmps218
  go_wp2
  refine bodyPost_ret (zax rfl _ _ _) rfl ?_;exact⟨rfl,rfl⟩
 by_cases h6:k=6
 ·subst h6;go_enter Tryz.func218,Tryz.ntmps218
  go_wp2
  refine bodyPost_ret (zax rfl _ _ _) rfl ?_;exact⟨rfl,rfl⟩
 by_cases iH:k=33
 ·subst iH;go_enter Tryz.func218,Tryz.ntmps218
  go_wp2
  refine bodyPost_ret (zax rfl _ _ _) rfl ?_;exact⟨rfl,rfl⟩
 have hL:layoutOf k=(0,0,0,false):=by simp[layoutOf,h1,iG,h2,h5,dq,eO,h6,iH]
 rw[hL];have g1:(k==1)=false:=by rw[beq_eq_false_iff_ne];exact h1
 have g28:(k==28)=false:=by rw[beq_eq_false_iff_ne];exact iG
 have g2:(k==2)=false:=by rw[beq_eq_false_iff_ne];exact h2
 have g5:(k==5)=false:=by rw[beq_eq_false_iff_ne];exact h5
 have g12:(k==12)=false:=by rw[beq_eq_false_iff_ne];exact dq
 have g15:(k==15)=false:=by rw[beq_eq_false_iff_ne];exact eO
 have g6:(k==6)=false:=by rw[beq_eq_false_iff_ne];exact h6
 have g33:(k==33)=false:=by rw[beq_eq_false_iff_ne];exact iH
 clear hL h1 iG h2 h5 dq eO h6 iH;go_enter Tryz.func218,Tryz.ntmps218
 go_wp2
 refine bodyPost_ret (zax rfl _ _ _) rfl ?_;exact⟨rfl,rfl⟩
def Prs (w:World) (lo:Nat) (v:Value) (l:List Pr):Prop:=∃A c,v=.slice A l.length c∧Own w lo 272 2 A l.length c (l.flatMap Pr.cells)
def zzb (R:List Pr×Nat) (w:World) (e:Ending) (w':World):Prop:=∃v,e=.returned (.tuple #[v,.int .i64 R.2])∧Prs w' w.heap.size v R.1∧Ext w w'
theorem zF2:(Tryz.prog.info? 272).map (fun i=>(i.zero,i.size,i.bytes))=some (some (.agg #[.string ⟨#[]⟩,.bool false]),2,24):=by kernel_rfl
theorem zAx (p:Pr):∀u∈p.cells,u.oneCell'=true:=by
 intro u hu;simp[Pr.cells]at hu;rcases hu with rfl|rfl<;>rfl
theorem zBe (l:List UInt8) (w:World) (hl:l.length≤1048576):
 Calls Tryz.prog 217 #[S l] w (zzb (if zbq l then([⟨l,false⟩],0)else([],4)) w):=by
 obtain⟨R,hR⟩:∃R:List Pr×Nat,R=if zbq l then([⟨l,false⟩],0)else([],4):=⟨_,rfl⟩
 rw[←hR];have HR:=Z7 hR
 clear hR;by_cases h0:l=[]
 ·subst h0;have HF:=Z7 (show R=([],4)from HR.out)
  go_enter Tryz.func217,Tryz.ntmps217;go_wp2_with fail
  go_ret2
  exact⟨_,by rw[HF.out];rfl,by rw[HF.out];exact⟨none,0,rfl,Own.nil _ _ _ _⟩,Z5 _⟩
 ·have iV:0<l.length:=List.length_pos_iff.2 h0
  have f0:l.isEmpty=false:=by simpa using h0
  have f1:(l==[])=false:=by rw[beq_eq_false_iff_ne];exact h0
  clear h0;go_enter Tryz.func217,Tryz.ntmps217;go_wp2_with fail
  go_loop [4] (fun i=>∃k:Nat,k≤l.length∧i=.int .i64 k∧zbq l=if k=l.length then true else zbq (l.drop k)) (fun i=>l.length - (intOf i).toNat)
  case atStart=>exact⟨0,by omega,rfl,by rw[if_neg (by omega)];rfl⟩
  case round=>
   obtain⟨k,hk,rfl,hrel⟩:=hrel
   by_cases ab:k<l.length
   ·obtain⟨b,Hb,cg,dp,aB⟩:=zbu l k ab
    rw[if_neg (by omega)]at hrel
    have nw:=Z7 hrel
    clear hrel;by_cases cZ:(l.length:Int)<(k:Int)+1+(b.toNat:Int)
    ·have HF:=Z7 (show R=([],4)by rw[HR.out,nw.out,znp ab b Hb.out (by omega)];rfl)
     go_wp2_with fail
     go_ret2
     exact⟨_,by rw[HF.out];rfl,by rw[HF.out];exact⟨none,0,rfl,Own.nil _ _ _ _⟩,Z5 _⟩
    ·have bO:=Z7 (zpp ab b Hb.out (by omega))
     go_wp2_with fail;go_round
     case rel=>
      refine⟨k+(1+b.toNat),by omega,by go_num,?_⟩
      rw[nw.out,bO.out]
     case measure=>simp[intOf];omega
   ·have HF:=Z7 (show R=([⟨l,false⟩],0)by
     have ht:zbq l=true:=by rw[hrel,if_pos (by omega)]
     rw[HR.out,ht];rfl)
    clear hrel;go_wp2_with fail
    go_ret2
    refine⟨_,by rw[HF.out];rfl,?_,(Z5 _).alloc _⟩
    rw[HF.out];exact⟨_,1,rfl,zeq w _ _ rfl (Z4 _) _ _ 1 2 rfl (by unfold maxLen;omega)⟩
theorem zna (k:Int):(layoutOf k).1≤16∧(layoutOf k).2.1≤2∧(layoutOf k).2.2.1≤20:=by
 unfold layoutOf
 repeat' split
 all_goals simp
structure PiInv (w0:World) (msg:List UInt8) (behind names:Nat) (R:List Pr×Nat) (i p:Nat) (acc:List Pr) (A:Option Addr) (c:Nat) (wr:World):Prop where
 hi:i≤names
 hp:p≤msg.length
 hl:acc.length=i+1
 own:Own wr w0.heap.size 272 2 A acc.length c (acc.flatMap Pr.cells)
 ext:Ext w0 wr
 eq:R=zan msg behind (names - i) p acc
theorem zpg (msg:List UInt8) (pos:Nat) (kind:Int) (w:World) (hl:msg.length≤1048576) (hp:pos≤msg.length):
 Calls Tryz.prog 160 #[S msg,.int .i64 pos,.int .u16 kind] w (zzb (refPieces msg pos kind) w):=by
 obtain⟨R,hR⟩:∃R,R=refPieces msg pos kind:=⟨_,rfl⟩
 rw[←hR];unfold refPieces at hR;have ed:(msg.drop pos).take (msg.length - pos)=msg.drop pos:=List.take_of_length_le (by simp)
 have de:(pos:Int)≤msg.length:=by omega
 by_cases dt:kind=41
 ·subst dt;rw[if_pos rfl]at hR;have HF:=Z7 hR
  clear hR;go_enter Tryz.func160,Tryz.ntmps160;go_wp2_with fail
  go_ret2
  exact⟨_,by rw[HF.out];rfl,by rw[HF.out];exact⟨none,0,rfl,Own.nil _ _ _ _⟩,Z5 _⟩
 rw[if_neg dt]at hR;have f41:(kind==41)=false:=by rw[beq_eq_false_iff_ne];exact dt
 by_cases iI:kind=16
 ·subst iI;rw[if_pos rfl]at hR;have HF:=Z7 hR
  clear hR dt;have HT:=Z7 (zBe (msg.drop pos) w (by simp;omega))
  rw[←HF.out]at HT;go_enter Tryz.func160,Tryz.ntmps160;go_wp2_with fail;refine HT.out.mono ?_;rintro e w1 ⟨v,rfl,hP,hE⟩;go_wp2_with fail
  go_ret2
  exact⟨v,rfl,hP,hE⟩
 rw[if_neg iI]at hR;have f16:(kind==16)=false:=by rw[beq_eq_false_iff_ne];exact iI
 have sZ:=Z7 (zys kind w)
 have ut:=zna kind
 clear dt iI;generalize layoutOf kind=L at*;obtain⟨ahead,names,behind,is⟩:=L
 dsimp only at*;obtain⟨i0,aH,aF,aC,ax⟩:=info_parts zF2
 rcases is with _|_
 ·rw[if_pos rfl]at hR;have HF:=Z7 hR
  clear hR;go_enter Tryz.func160,Tryz.ntmps160;go_wp2_with fail;refine sZ.out.mono ?_;rintro e w' ⟨rfl,rfl⟩;go_wp2_with fail
  go_ret2
  refine⟨_,by rw[HF.out];rfl,?_,(Z5 _).alloc _⟩
  rw[HF.out];exact⟨_,1,rfl,zeq w _ _ rfl (Z4 _) _ _ 1 2 rfl (by unfold maxLen;omega)⟩
 ·rw[if_neg (by simp)]at hR
  by_cases cZ:msg.length - pos<ahead
  ·rw[if_pos cZ]at hR;have HF:=Z7 hR
   have ue:(msg.length:Int) - pos<ahead:=by omega
   clear hR;go_enter Tryz.func160,Tryz.ntmps160;go_wp2_with fail;refine sZ.out.mono ?_;rintro e w' ⟨rfl,rfl⟩;go_wp2_with fail
   go_ret2
   exact⟨_,by rw[HF.out];rfl,by rw[HF.out];exact⟨none,0,rfl,Own.nil _ _ _ _⟩,Z5 _⟩
  ·rw[if_neg cZ]at hR;have HR:=Z7 hR
   have ue:¬(msg.length:Int) - pos<ahead:=by omega
   have e2:((pos:Int)+ahead).toNat=pos+ahead:=by omega
   have e3:pos+ahead - pos=ahead:=by omega
   have e4:(pos:Int)+ahead≤msg.length:=by omega
   clear hR;go_enter Tryz.func160,Tryz.ntmps160;go_wp2_with fail;refine sZ.out.mono ?_;rintro e w' ⟨rfl,rfl⟩;go_wp2_with fail
   go_loopw [1,12,13] (fun p o i wr=>∃(k p':Nat) (acc:List Pr) (A:Option Addr) (c:Nat),i=.int .i64 k∧p=.int .i64 p'∧o=.slice A acc.length c∧PiInv w msg behind names R k p' acc A c wr) (fun _ _ i _=>names - (intOf i).toNat)
   case atStart=>
    refine⟨0,pos+ahead,[⟨(msg.drop pos).take ahead,false⟩],_,1,rfl,by go_num,rfl,⟨by omega,by omega,rfl,?_,(Z5 _).alloc _,HR.out⟩⟩
    exact zeq w _ _ rfl (Z4 _) _ _ 1 2 rfl (by unfold maxLen;omega)
   case round=>
    obtain⟨k,p',acc,A,c,rfl,rfl,rfl,hI⟩:=hrel
    obtain⟨wo,rfl⟩:∃wo:World,wo=wr:=⟨_,rfl⟩
    have hk:=hI.hi
    have qB:=hI.hp
    have fO:=Z7 hI.hl
    have a6:=hI.eq
    clear e2 e3 ed;by_cases ab:k<names
    ·rw[show names - k=(names - k - 1)+1 by omega]at a6
     simp only[zan]at a6;have pj:=Z7 (zu5 msg p' wo hl qB)
     have aB:=ze2 msg p'
     have bC:(k:Int)<names:=by omega
     generalize readN msg p'=X at*;obtain⟨x1,x2,x3⟩:=X
     dsimp only at*;by_cases aJ:x3=0
     ·subst aJ;rw[if_neg (by simp)]at a6
      have lq:=Z7 a6
      clear a6;go_wp2_with(first
       |(go_at_call 167;refine pj.out.mono ?_;rintro e w' ⟨rfl,rfl⟩)
       |(at_builtin
         refine zad _ rfl (.tmp 73) (.tmp 76) _ rfl w.heap.size 272 i0 _ 2 24 Tryz.underlying185 aH aF aC ax rfl (by omega) A acc.length c (acc.flatMap Pr.cells) rfl (hI.own.ext ((Z5 _).alloc _)) 0 _ 1 1 (Pr.cells ⟨x1,true⟩) rfl (zaw _ _ rfl _ _ 1 2 rfl) (zAx _) (by have:=fO.out;omega) (by omega) (by have:=hI.ext.size;simp;omega) ?_
         intro A5 c5 w5 ai bq aG _))
      go_roundw
      case rel=>
       refine⟨k+1,x2,acc++[⟨x1,true⟩],A5,c5,by go_num,rfl,by simp,⟨by omega,aB.1,by simp[fO.out],?_,(hI.ext.alloc _).then aG (Z4 _),?_⟩⟩
       ·rw[Z6,List.flatMap_append];simpa using ai
       ·rw[lq.out];congr 1
      case measure=>simp[intOf];omega
     ·rw[if_pos aJ]at a6;have HF:=Z7 a6
      have f1:((x3:Int)==0)=false:=zbm aJ
      have f2:((x3:Int)!=0)=true:=by rw[bne,f1];rfl
      clear a6 aJ;go_wp2_with(go_at_call 167;refine pj.out.mono ?_;rintro e w' ⟨rfl,rfl⟩)
      go_ret2
      exact⟨_,by rw[HF.out];rfl,by rw[HF.out];exact⟨none,0,rfl,Own.nil _ _ _ _⟩,hI.ext⟩
    ·rw[show names - k=0 by omega]at a6
     simp only[zan]at a6;have bC:¬(k:Int)<names:=by omega
     by_cases fP:msg.length - p'<behind
     ·rw[if_pos fP]at a6;have HF:=Z7 a6
      have g1:(msg.length:Int) - p'<behind:=by omega
      clear a6;go_wp2_with fail
      go_ret2
      exact⟨_,by rw[HF.out];rfl,by rw[HF.out];exact⟨none,0,rfl,Own.nil _ _ _ _⟩,hI.ext⟩
     ·rw[if_neg fP]at a6;have g1:¬(msg.length:Int) - p'<behind:=by omega
      by_cases iF:behind<msg.length - p'
      ·rw[if_pos iF]at a6;have HF:=Z7 a6
       have g2:(behind:Int)<(msg.length:Int) - p':=by omega
       clear a6;go_wp2_with fail
       go_ret2
       exact⟨_,by rw[HF.out];rfl,by rw[HF.out];exact⟨none,0,rfl,Own.nil _ _ _ _⟩,hI.ext⟩
      ·rw[if_neg iF]at a6;have HF:=Z7 a6
       have g2:¬(behind:Int)<(msg.length:Int) - p':=by omega
       have ed2:(msg.drop p').take (msg.length - p')=msg.drop p':=List.take_of_length_le (by simp)
       have li:(p':Int)≤msg.length:=by omega
       clear a6;go_wp2_with(
        at_builtin
        refine zad _ rfl (.tmp 91) (.tmp 96) _ rfl w.heap.size 272 i0 _ 2 24 Tryz.underlying185 aH aF aC ax rfl (by omega) A acc.length c (acc.flatMap Pr.cells) rfl (hI.own.ext ((Z5 _).alloc _)) 0 _ 1 1 (Pr.cells ⟨msg.drop p',false⟩) rfl (zaw _ _ rfl _ _ 1 2 rfl) (zAx _) (by have:=fO.out;omega) (by omega) (by have:=hI.ext.size;simp;omega) ?_
        intro A5 c5 w5 ai bq aG _)
       go_ret2
       refine⟨_,by rw[HF.out];rfl,?_,(hI.ext.alloc _).then aG (Z4 _)⟩
       rw[HF.out];refine⟨A5,c5,by simp,?_⟩
       rw[Z6,List.flatMap_append];simpa using ai
def joinR (l:List Pr):List UInt8:=l.flatMap Pr.s
def foldR (l:List Pr):List UInt8:=l.flatMap fun p=>if p.nm then fold p.s else p.s
def zmt (l:List Pc):List UInt8:=l.flatMap fun p=>if p.nm then fold p.text else p.text
def zbz (k:Int) (d:List UInt8):Option (List Pr):=if(refPieces d 0 k).2=0∧joinR (refPieces d 0 k).1=d then some (refPieces d 0 k).1 else none
def zho (A:List Pc×Nat) (B:List Pr×Nat):Prop:=(A.2=0↔B.2=0)∧(A.2=0→textOf A.1=joinR B.1∧zmt A.1=foldR B.1)
theorem zei {e f:Nat} (he:e≠0) (hf:f≠0):zho ([],e) ([],f):=⟨by simp[he,hf],by simp[he]⟩
theorem zk8 {a:List Pc} {b:List Pr} (h1:textOf a=joinR b) (h2:zmt a=foldR b):zho (a,0) (b,0):=⟨by simp,fun _=>⟨h1,h2⟩⟩
theorem zc1 {c:Chk} {cs:List Chk} {msg:List UInt8} {pos:Nat} (h:(zaa c msg pos).2≠0):zab (c::cs) msg pos=([],(zaa c msg pos).2):=by simp only[zab,if_pos h]
theorem zbp {c:Chk} {cs:List Chk} {msg:List UInt8} {pos:Nat} (h:(zaa c msg pos).2=0) (h2:(zab cs msg (zaa c msg pos).1.next).2=0):zab (c::cs) msg pos=((zaa c msg pos).1::(zab cs msg (zaa c msg pos).1.next).1,0):=by
 simp only[zab];rw[if_neg (by simp[h]),if_neg (by simp[h2])]
theorem zcz {c:Chk} {cs:List Chk} {msg:List UInt8} {pos:Nat} (h:(zaa c msg pos).2=0) (h2:(zab cs msg (zaa c msg pos).1.next).2≠0):zab (c::cs) msg pos=([],(zab cs msg (zaa c msg pos).1.next).2):=by
 simp only[zab];rw[if_neg (by simp[h]),if_pos h2]
theorem zfm (msg:List UInt8) (behind:Nat):∀(n pos:Nat) (acc more:List Pr),zan msg behind n pos (acc++more)=if(zan msg behind n pos more).2=0 then(acc++(zan msg behind n pos more).1,0)else zan msg behind n pos more
 |0,pos,acc,more=>by
  simp only[zan];split
  ·simp
  ·split
   ·simp
   ·simp
 |n+1,pos,acc,more=>by
  simp only[zan];split
  ·rename_i h;simp[h]
  ·rw[List.append_assoc];exact zfm msg behind n _ acc (more++[⟨(readN msg pos).1,true⟩])
theorem zh4 {msg:List UInt8} {behind n pos:Nat} {acc:List Pr} (h:(zan msg behind n pos acc).2≠0):(zan msg behind n pos acc).1=[]:=by
 induction n generalizing pos acc with
 |zero=>
  simp only[zan]at h ⊢;split
  ·rfl
  ·split
   ·rfl
   ·rename_i h1 h2;rw[if_neg h1,if_neg h2]at h;exact absurd rfl h
 |succ n ih=>
  simp only[zan]at h ⊢;split
  ·rfl
  ·rename_i h1;rw[if_neg h1]at h;exact ih h
def zch (behind:Nat):List Chk:=if behind=0 then[]else[⟨0,behind⟩]
theorem zBi (msg:List UInt8) (behind pos:Nat) (hp:pos≤msg.length):zho (zab (zch behind) msg pos) (zan msg behind 0 pos []):=by
 unfold zch;simp only[zan];by_cases hb:behind=0
 ·subst hb;rw[if_pos rfl,if_neg (by omega)]
  simp only[zab];by_cases h:pos<msg.length
  ·rw[if_pos h,if_pos (by omega)];exact zei (by decide) (by decide)
  ·rw[if_neg h,if_neg (by omega),List.drop_of_length_le (by omega)];exact zk8 rfl rfl
 ·rw[if_neg hb];by_cases h:msg.length - pos<behind
  ·rw[if_pos h,zc1 (by simp[zaa,h])]
   simp only[zaa,h,if_true];exact zei (by decide) (by decide)
  ·rw[if_neg h];have hr:zaa ⟨0,behind⟩ msg pos=(⟨(msg.drop pos).take behind,false,pos+behind⟩,0):=by simp[zaa,h]
   by_cases h2:behind<msg.length - pos
   ·rw[if_pos h2,zcz (by rw[hr]) (by rw[hr];simp only[zab];rw[if_pos (by omega)];decide),hr]
    simp only[zab];rw[if_pos (by omega)]
    exact zei (by decide) (by decide)
   ·rw[if_neg h2,zbp (by rw[hr]) (by rw[hr];simp only[zab];rw[if_neg (by omega)]),hr]
    simp only[zab];rw[if_neg (by omega)]
    have e:(msg.drop pos).take behind=msg.drop pos:=List.take_of_length_le (by simp;omega)
    rw[e];exact zk8 (by simp[textOf,joinR]) (by simp[zmt,foldR])
theorem zrp {p:Pc} {q:Pr} {A:List Pc×Nat} {B:List Pr×Nat} (h:zho A B) (hA:A.2=0) (h1:p.text=q.s) (h2:p.nm=q.nm):zho (p::A.1,0) (q::B.1,0):=by
 obtain⟨h3,h4⟩:=h.2 hA
 refine zk8 ?_ ?_
 ·unfold textOf joinR at*;rw[List.flatMap_cons,List.flatMap_cons,h1,h3]
 ·unfold zmt foldR at*;rw[List.flatMap_cons,List.flatMap_cons,h1,h2,h4]
theorem zl5 (msg:List UInt8) (behind:Nat):∀(n pos:Nat),pos≤msg.length→zho (zab (List.replicate n ⟨1,0⟩++zch behind) msg pos) (zan msg behind n pos [])
 |0,pos,hp=>by simpa using zBi msg behind pos hp
 |n+1,pos,hp=>by
  rw[List.replicate_succ,List.cons_append];simp only[zan];by_cases h:(readN msg pos).2.2=0
  ·have hr:zaa ⟨1,0⟩ msg pos=(⟨(readN msg pos).1,true,(readN msg pos).2.1⟩,0):=by simp[zaa,h]
   have ih:=zl5 msg behind n (readN msg pos).2.1 (ze2 msg pos).1
   rw[if_neg (by simp[h])]
   have ha:=zfm msg behind n (readN msg pos).2.1 [⟨(readN msg pos).1,true⟩] []
   rw[List.append_nil]at ha;rw[List.nil_append,ha];by_cases h2:(zab (List.replicate n ⟨1,0⟩++zch behind) msg (readN msg pos).2.1).2=0
   ·rw[zbp (by rw[hr]) (by rw[hr];exact h2),hr,if_pos (ih.1.1 h2)]
    exact zrp ih h2 rfl rfl
   ·have h3:(zan msg behind n (readN msg pos).2.1 []).2≠0:=fun e=>h2 (ih.1.2 e)
    rw[zcz (by rw[hr]) (by rw[hr];exact h2),hr,if_neg h3]
    have:=zh4 h3
    have e:zan msg behind n (readN msg pos).2.1 []=([],(zan msg behind n (readN msg pos).2.1 []).2):=Prod.ext this rfl
    rw[e];exact zei h2 h3
  ·rw[if_pos h];have hr:zaa ⟨1,0⟩ msg pos=(Pc.zero,(readN msg pos).2.2):=by simp[zaa,h]
   rw[zc1 (by rw[hr];exact h),hr]
   exact zei h h
theorem zDz (msg:List UInt8) (ahead names behind pos:Nat) (hp:pos≤msg.length):
 zho (zab (zch ahead++(List.replicate names ⟨1,0⟩++zch behind)) msg pos) (if msg.length - pos<ahead then([],4)else zan msg behind names (pos+ahead) [⟨(msg.drop pos).take ahead,false⟩]):=by
 have ha:=fun q=>zfm msg behind names q [⟨(msg.drop pos).take ahead,false⟩] []
 simp only[List.append_nil]at ha;by_cases h0:ahead=0
 ·subst h0;rw[if_neg (by omega),ha]
  have h1:zch 0=[]:=rfl
  rw[h1,List.nil_append];have ih:=zl5 msg behind names pos hp
  have e0:pos+0=pos:=rfl
  rw[e0];by_cases h2:(zan msg behind names pos []).2=0
  ·rw[if_pos h2];have h3:=ih.1.2 h2
   obtain⟨h4,h5⟩:=ih.2 h3
   refine⟨by simp[h3],fun _=>⟨?_,?_⟩⟩
   ·rw[h4];simp[joinR]
   ·rw[h5];simp[foldR]
  ·rw[if_neg h2];exact ih
 ·have h1:zch ahead=[⟨0,ahead⟩]:=by unfold zch;rw[if_neg h0]
  rw[h1,List.cons_append,List.nil_append];by_cases h:msg.length - pos<ahead
  ·have hr:zaa ⟨0,ahead⟩ msg pos=(Pc.zero,4):=by simp[zaa,h]
   rw[if_pos h,zc1 (by rw[hr];decide),hr]
   exact zei (by decide) (by decide)
  ·have hr:zaa ⟨0,ahead⟩ msg pos=(⟨(msg.drop pos).take ahead,false,pos+ahead⟩,0):=by simp[zaa,h]
   rw[if_neg h,ha];have ih:=zl5 msg behind names (pos+ahead) (by omega)
   by_cases h2:(zab (List.replicate names ⟨1,0⟩++zch behind) msg (pos+ahead)).2=0
   ·rw[zbp (by rw[hr]) (by rw[hr];exact h2),hr,if_pos (ih.1.1 h2)]
    exact zrp ih h2 rfl rfl
   ·have h3:(zan msg behind names (pos+ahead) []).2≠0:=fun e=>h2 (ih.1.2 e)
    rw[zcz (by rw[hr]) (by rw[hr];exact h2),hr,if_neg h3]
    have:=zh4 h3
    have e:zan msg behind names (pos+ahead) []=([],(zan msg behind names (pos+ahead) []).2):=Prod.ext this rfl
    rw[e];exact zei h2 h3
theorem zhz (msg:List UInt8) (pos:Nat) (k:Int) (hp:pos≤msg.length):zho (splitOf msg pos k) (refPieces msg pos k):=by
 unfold splitOf refPieces;by_cases dt:k=41
 ·rw[if_pos dt,if_pos dt];exact zei (by decide) (by decide)
 rw[if_neg dt,if_neg dt];by_cases iI:k=16
 ·subst iI;rw[if_pos rfl];have hc:checksOf 16=[⟨2,0⟩]:=rfl
  rw[hc];by_cases h:zbq (msg.drop pos)=true
  ·have hr:zaa ⟨2,0⟩ msg pos=(⟨msg.drop pos,false,msg.length⟩,0):=by simp[zaa,h]
   rw[if_pos h,zbp (by rw[hr]) (by rw[hr];simp[zab]),hr]
   simp only[zab,Nat.lt_irrefl,if_false];exact zk8 (by simp[textOf,joinR]) (by simp[zmt,foldR])
  ·have hr:zaa ⟨2,0⟩ msg pos=(Pc.zero,4):=by simp[zaa,h]
   rw[if_neg h,zc1 (by rw[hr];decide),hr]
   exact zei (by decide) (by decide)
 rw[if_neg iI];have key:∀(a n b:Nat),layoutOf k=(a,n,b,true)→checksOf k=zch a++(List.replicate n ⟨1,0⟩++zch b)→
  zho (zab (checksOf k) msg pos) (if(layoutOf k).2.2.2=false then([⟨msg.drop pos,false⟩],0)else if msg.length - pos<(layoutOf k).1 then([],4)else zan msg (layoutOf k).2.2.1 (layoutOf k).2.1 (pos+(layoutOf k).1) [⟨(msg.drop pos).take (layoutOf k).1,false⟩]):=by
  intro a n b h1 h2;rw[h1,h2,if_neg (by simp)]
  exact zDz msg a n b pos hp
 by_cases h1:k=1
 ·subst h1;exact key 4 0 0 rfl rfl
 by_cases iG:k=28
 ·subst iG;exact key 16 0 0 rfl rfl
 by_cases h2:k=2
 ·subst h2;exact key 0 1 0 rfl rfl
 by_cases h5:k=5
 ·subst h5;exact key 0 1 0 rfl rfl
 by_cases dq:k=12
 ·subst dq;exact key 0 1 0 rfl rfl
 by_cases eO:k=15
 ·subst eO;exact key 2 1 0 rfl rfl
 by_cases h6:k=6
 ·subst h6;exact key 0 2 20 rfl rfl
 by_cases iH:k=33
 ·subst iH;exact key 6 1 0 rfl rfl
 have hL:layoutOf k=(0,0,0,false):=by simp[layoutOf,h1,iG,h2,h5,dq,eO,h6,iH]
 have hC:checksOf k=[⟨3,0⟩]:=by simp[checksOf,h1,iG,h2,h5,dq,eO,h6,iH,iI]
 rw[hL,hC,if_pos rfl];have hr:zaa ⟨3,0⟩ msg pos=(⟨msg.drop pos,false,msg.length⟩,0):=rfl
 rw[zbp (by rw[hr]) (by rw[hr];simp[zab]),hr]
 simp only[zab,Nat.lt_irrefl,if_false];exact zk8 (by simp[textOf,joinR]) (by simp[zmt,foldR])
theorem zpr (k:Int) (d:List UInt8):(zbz k d).isSome=rmay k d:=by
 have h:=zhz d 0 k (Nat.zero_le _)
 unfold zbz rmay zbk;by_cases h1:(splitOf d 0 k).2=0
 ·obtain⟨h2,_⟩:=h.2 h1
  have h3:=h.1.1 h1
  by_cases h4:textOf (splitOf d 0 k).1=d
  ·rw[if_pos ⟨h3,h2▸h4⟩,if_pos ⟨h1,h4⟩];rfl
  ·rw[if_neg (fun e=>h4 (h2.trans e.2)),if_neg (fun e=>h4 e.2)];rfl
 ·have h3:¬(refPieces d 0 k).2=0:=fun e=>h1 (h.1.2 e)
  rw[if_neg (fun e=>h3 e.1),if_neg (fun e=>h1 e.1)];rfl
theorem zvs (k:Int) (d:List UInt8):foldR ((zbz k d).getD [])=rfold k d:=by
 have h:=zhz d 0 k (Nat.zero_le _)
 unfold zbz rfold partsOf zbk;by_cases h1:(splitOf d 0 k).2=0
 ·obtain⟨h2,h5⟩:=h.2 h1
  have h3:=h.1.1 h1
  by_cases h4:textOf (splitOf d 0 k).1=d
  ·rw[if_pos ⟨h3,h2▸h4⟩,if_pos ⟨h1,h4⟩];exact h5.symm
  ·rw[if_neg (fun e=>h4 (h2.trans e.2)),if_neg (fun e=>h4 e.2)];rfl
 ·have h3:¬(refPieces d 0 k).2=0:=fun e=>h1 (h.1.2 e)
  rw[if_neg (fun e=>h3 e.1),if_neg (fun e=>h1 e.1)];rfl
theorem zrc {w:World} {b off:Nat} {l:List Pr} (hc:∀j u,(l.flatMap Pr.cells)[j]? =some u→w.cell? ⟨b,off+j,none⟩=some u) (k:Nat) (p:Pr) (hp:l[k]? =some p):
 w.cell? ⟨b,off+k*2,none⟩=some (S p.s)∧w.cell? ⟨b,off+k*2+1,none⟩=some (.bool p.nm):=by
 refine⟨?_,?_⟩
 ·exact hc (k*2+0) _ (zb7 Pr.cells 2 (fun _=>rfl) l k 0 p hp (by omega))
 ·rw[Nat.add_assoc];exact hc (k*2+1) _ (zb7 Pr.cells 2 (fun _=>rfl) l k 1 p hp (by omega))
theorem zxx (l:List Pr) (k:Nat) (h:k<l.length):joinR (l.take (k+1))=joinR (l.take k)++l[k].s:=by
 rw[zat l k h];unfold joinR;rw[List.flatMap_append,List.flatMap_cons,List.flatMap_nil,List.append_nil]
theorem zxn (l:List Pr) (k:Nat) (h:k<l.length):foldR (l.take (k+1))=foldR (l.take k)++(if l[k].nm then fold l[k].s else l[k].s):=by
 rw[zat l k h];unfold foldR;rw[List.flatMap_append,List.flatMap_cons,List.flatMap_nil,List.append_nil]
theorem zF3 (l:List Pr) (n:Nat) (h:∀p∈l,p.s.length≤n):(joinR l).length≤l.length*n:=by
 induction l with
 |nil=>simp[joinR]
 |cons p l ih=>
  have h1:=h p (by simp)
  have h2:=ih (fun q hq=>h q (by simp[hq]))
  unfold joinR at*;rw[List.flatMap_cons,Z6,List.length_cons,Nat.add_mul];omega
theorem zuv (n:List UInt8):(fold n).length≤n.length+255:=Z2 (ze4 n) (by omega)
theorem zCu (l:List Pr) (n:Nat) (h:∀p∈l,p.s.length≤n):(foldR l).length≤l.length*(n+255):=by
 induction l with
 |nil=>simp[foldR]
 |cons p l ih=>
  have h1:=h p (by simp)
  have h2:=ih (fun q hq=>h q (by simp[hq]))
  have h3:(if p.nm then fold p.s else p.s).length≤n+255:=by
   split
   ·have:=zuv p.s;omega
   ·omega
  unfold foldR at*;rw[List.flatMap_cons,Z6,List.length_cons,Nat.add_mul];omega
theorem zpf (msg:List UInt8) (behind:Nat):∀(n pos:Nat) (acc:List Pr),(∀p∈acc,p.s.length≤msg.length+255)→(zan msg behind n pos acc).1.length≤acc.length+n+1∧∀p∈(zan msg behind n pos acc).1,p.s.length≤msg.length+255
 |0,pos,acc,h=>by
  simp only[zan];split
  ·simp
  ·split
   ·simp
   ·refine⟨by simp,fun p hp=>?_⟩
    rcases List.mem_append.1 hp with h1|h1
    ·exact h p h1
    ·rw[List.mem_singleton]at h1;subst h1;simp;omega
 |n+1,pos,acc,h=>by
  simp only[zan];split
  ·simp
  ·have hb:=ze2 msg pos
   have:=zpf msg behind n (readN msg pos).2.1 (acc++[⟨(readN msg pos).1,true⟩]) (fun p hp=>by
    rcases List.mem_append.1 hp with h1|h1
    ·exact h p h1
    ·rw[List.mem_singleton]at h1;subst h1;have:=hb.2;dsimp only;omega)
   refine⟨?_,this.2⟩;have h3:=this.1
   simp at h3;omega
theorem zip (msg:List UInt8) (pos:Nat) (k:Int):(refPieces msg pos k).1.length≤4∧∀p∈(refPieces msg pos k).1,p.s.length≤msg.length+255:=by
 unfold refPieces;have hb:=zna k
 split
 ·simp
 ·split
  ·split
   ·refine⟨by simp,fun p hp=>?_⟩
    rw[List.mem_singleton]at hp;subst hp;simp;omega
   ·simp
  ·split
   ·refine⟨by simp,fun p hp=>?_⟩
    rw[List.mem_singleton]at hp;subst hp;simp;omega
   ·split
    ·simp
    ·have:=zpf msg (layoutOf k).2.2.1 (layoutOf k).2.1 (pos+(layoutOf k).1) [⟨(msg.drop pos).take (layoutOf k).1,false⟩] (fun p hp=>by
      rw[List.mem_singleton]at hp;subst hp;simp;omega)
     refine⟨?_,this.2⟩;have h3:=this.1
     simp at h3;omega
theorem zl2 (lo:Nat) (v:Value) (l:List Pr) (w:World) (h:Prs w lo v l) (hl:l.length≤4) (hb:∀p∈l,p.s.length≤2097152):
 Calls Tryz.prog 161 #[v] w fun e w'=>e=.returned (S (joinR l))∧w=w':=by
 obtain⟨A,c,rfl,ag⟩:=h
 have ay:=ag.rd
 clear ag;go_enter Tryz.func161,Tryz.ntmps161
 go_wp2
 go_loop [3,4] (fun o i=>∃k:Nat,k≤l.length∧i=.int .i64 k∧o=S (joinR (l.take k))) (fun _ i=>l.length - (intOf i).toNat)
 case atStart=>exact⟨0,by omega,rfl,rfl⟩
 case round=>
  obtain⟨k,hk,rfl,rfl⟩:=hrel
  have lk:=zF3 (l.take k) 2097152 (fun p hp=>hb p (List.mem_of_mem_take hp))
  have cv:(l.take k).length≤4:=Z2 (List.length_take_le _ _) (by omega)
  have nh:(joinR (l.take k)).length≤8388608:=Z2 lk (Nat.mul_le_mul_right 2097152 cv)
  clear lk cv;by_cases ab:k<l.length
  ·have hp:l[k]? =some l[k]:=Z3 ab
   have bi:l[k].s.length≤2097152:=hb _ (List.getElem_mem ab)
   have gR:=Z7 (zxx l k ab)
   generalize l[k]=p at*;generalize joinR (l.take k)=T at*;obtain⟨b,off,rfl,_,az,hc⟩:=ay.2 (by omega)
   obtain⟨h0,h1⟩:=zrc hc k p hp
   clear hc hp ay hb
   go_wp2
   go_round
   case rel=>exact⟨k+1,by omega,by go_num,by rw[gR.out]⟩
   case measure=>simp[intOf];omega
  ·have e1:l.take k=l:=List.take_of_length_le (by omega)
   rw[e1]at nh ⊢;clear e1
   go_wp2
   go_ret;exact⟨rfl,rfl⟩
def zhq (kind:Int) (d:List UInt8) (w:World) (e:Ending) (w':World):Prop:=∃v,e=.returned (.tuple #[v,.bool (zbz kind d).isSome])∧Prs w' w.heap.size v ((zbz kind d).getD [])∧Ext w w'
theorem zz6 {kind:Int} {d:List UInt8} (h:¬((refPieces d 0 kind).2=0∧joinR (refPieces d 0 kind).1=d)):zbz kind d=none:=by unfold zbz;rw[if_neg h]
theorem zvt {kind:Int} {d:List UInt8} (h:(refPieces d 0 kind).2=0∧joinR (refPieces d 0 kind).1=d):zbz kind d=some (refPieces d 0 kind).1:=by unfold zbz;rw[if_pos h]
theorem zme (kind:Int) (data:List UInt8) (w:World) (hl:data.length≤1048576):
 Calls Tryz.prog 100 #[.int .u16 kind,S data] w (zhq kind data w):=by
 have Hs:=Z7 (zpg data 0 kind w hl (Nat.zero_le _))
 have aB:=zip data 0 kind
 have eP:=Z7 (@zz6 kind data)
 have dF:=Z7 (@zvt kind data)
 generalize refPieces data 0 kind=R at*;obtain⟨l,er⟩:=R
 dsimp only at*;by_cases aJ:er=0
 ·subst aJ;by_cases ht:joinR l=data
  ·have hw:=dF.out ⟨rfl,ht⟩
   have Hw:=Z7 hw
   clear hw eP dF;have Ht:=Z7 ht
   clear ht;go_enter Tryz.func100,Tryz.ntmps100;go_wp2_with fail;refine Hs.out.mono ?_;rintro e w1 ⟨v,rfl,hP,ae⟩;go_wp2_with fail;refine(zl2 _ v l w1 hP aB.1 (fun p hp=>by have:=aB.2 p hp;omega)).mono ?_;rintro e w2 ⟨rfl,rfl⟩
   rw[Ht.out];go_wp2_with fail
   go_ret2
   obtain⟨A,c,rfl,ag⟩:=hP
   refine⟨_,by rw[Hw.out];rfl,?_,ae⟩
   rw[Hw.out];exact⟨A,c,rfl,ag⟩
  ·have hw:=eP.out (fun h=>ht h.2)
   have Hw:=Z7 hw
   have f1:=ziu ht
   clear hw eP dF ht;go_enter Tryz.func100,Tryz.ntmps100;go_wp2_with fail;refine Hs.out.mono ?_;rintro e w1 ⟨v,rfl,hP,ae⟩;go_wp2_with fail;refine(zl2 _ v l w1 hP aB.1 (fun p hp=>by have:=aB.2 p hp;omega)).mono ?_;rintro e w2 ⟨rfl,rfl⟩
   go_wp2_with fail
   go_ret2
   refine⟨_,by rw[Hw.out];rfl,?_,ae⟩
   rw[Hw.out];exact⟨none,0,rfl,Own.nil _ _ _ _⟩
 ·have hw:=eP.out (fun h=>aJ h.1)
  have Hw:=Z7 hw
  have f1:((er:Int)==0)=false:=zbm aJ
  have f2:((er:Int)!=0)=true:=by rw[bne,f1];rfl
  clear hw eP dF aJ;go_enter Tryz.func100,Tryz.ntmps100;go_wp2_with fail;refine Hs.out.mono ?_;rintro e w1 ⟨v,rfl,hP,ae⟩;go_wp2_with fail
  go_ret2
  refine⟨_,by rw[Hw.out];rfl,?_,ae⟩
  rw[Hw.out];exact⟨none,0,rfl,Own.nil _ _ _ _⟩
theorem zl3 (kind:Int) (data:List UInt8) (w:World) (hl:data.length≤1048576):
 Calls Tryz.prog 52 #[.int .u16 kind,S data] w fun e w'=>e=.returned (.bool (rmay kind data))∧Ext w w':=by
 have HL:=Z7 (zme kind data w hl)
 unfold zhq at HL;rw[zpr]at HL;generalize rmay kind data=m at*;generalize (zbz kind data).getD []=l at*;go_enter Tryz.func52,Tryz.ntmps52;go_wp2_with fail;refine HL.out.mono ?_;rintro e w1 ⟨v,rfl,ho,hE⟩;go_wp2_with fail;go_ret;exact⟨rfl,hE⟩
theorem zrx (kind:Int) (d:List UInt8):((zbz kind d).getD []).length≤4∧∀p∈(zbz kind d).getD [],p.s.length≤d.length+255:=by
 have h:=zip d 0 kind
 unfold zbz;split
 ·exact h
 ·simp
theorem zBd (kind:Int) (data:List UInt8) (w:World) (hl:data.length≤1040000):
 Calls Tryz.prog 102 #[.int .u16 kind,S data] w fun e w'=>e=.returned (S (rfold kind data))∧Ext w w':=by
 have HL:=Z7 (zme kind data w (by omega))
 have aB:=zrx kind data
 rw[←zvs];unfold zhq at HL;generalize (zbz kind data).isSome=m at*;generalize (zbz kind data).getD []=l at*;have qz:=aB.1
 have hb:∀p∈l,p.s.length≤1041000:=fun p hp=>by have:=aB.2 p hp;omega
 go_enter Tryz.func102,Tryz.ntmps102;go_wp2_with fail;refine HL.out.mono ?_;rintro e w1 ⟨v,rfl,ho,ae⟩;obtain⟨A,c,rfl,ag⟩:=ho
 have ay:=ag.rd
 clear ag HL aB;go_wp2_with fail
 go_loopw [7,8] (fun o i wr=>∃k:Nat,k≤l.length∧i=.int .i64 k∧o=S (foldR (l.take k))∧Ext w1 wr) (fun _ i _=>l.length - (intOf i).toNat)
 case atStart=>exact⟨0,by omega,rfl,rfl,Z5 _⟩
 case round=>
  obtain⟨k,hk,rfl,rfl,hE⟩:=hrel
  obtain⟨wo,rfl⟩:∃wo:World,wo=wr:=⟨_,rfl⟩
  have lk:=zCu (l.take k) 1041000 (fun p hp=>hb p (List.mem_of_mem_take hp))
  have cv:(l.take k).length≤4:=Z2 (List.length_take_le _ _) (by omega)
  have nh:(foldR (l.take k)).length≤8388608:=Z2 lk (Z2 (Nat.mul_le_mul_right (1041000+255) cv) (by omega))
  clear lk cv;by_cases ab:k<l.length
  ·have hp:l[k]? =some l[k]:=Z3 ab
   have bi:l[k].s.length≤1041000:=hb _ (List.getElem_mem ab)
   have gR:=Z7 (zxn l k ab)
   generalize l[k]=p at*;generalize foldR (l.take k)=T at*;obtain⟨b,off,rfl,_,az,hc⟩:=ay.2 (by omega)
   obtain⟨h0,h1⟩:=zrc hc k p hp
   rw[←hE.cell (p:=⟨b,_,none⟩) az]at h0 h1
   clear hc hp ay hb;obtain⟨ps,pn⟩:=p
   dsimp only at*;rcases pn with _|_
   ·go_wp2_with fail;go_roundw
    case rel=>exact⟨k+1,by omega,by go_num,by rw[gR.out];rfl,hE⟩
    case measure=>simp[intOf];omega
   ·have fw:=ze4 ps
    go_wp2_with fail;refine(zgu ps _ (by omega)).mono ?_;rintro e w3 ⟨rfl,ao⟩
    generalize fold ps=F at*;go_wp2_with fail;go_roundw
    case rel=>exact⟨k+1,by omega,by go_num,by rw[gR.out];rfl,hE.trans ao⟩
    case measure=>simp[intOf];omega
  ·have e1:l.take k=l:=List.take_of_length_le (by omega)
   rw[e1]at nh ⊢;clear e1
   go_wp2
   go_ret;exact⟨rfl,ae.trans hE⟩
end Go.Proofs.YtdnpmapelmjfpaaGreatDoor
