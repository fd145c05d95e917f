/- Lemmas of this claim. No condition. -/
import Derived.Test.YtdnpmapelmjfpaaGreatDoorLe
import Derived.Test.YtdnpmapelmjfpaaGreatDoorShelf
set_option maxHeartbeats 4000000
set_option linter.unusedVariables false
set_option linter.unusedSimpArgs false
set_option maxRecDepth 100000
namespace Go.Proofs.YtdnpmapelmjfpaaGreatDoor
open Go.RowKit
theorem zF7 {b:UInt8} (h:b.toNat<64):lowB b=b:=zfb (by omega)
theorem zr6 (b:UInt8):lowB b=0↔b=0:=by
 constructor
 ·intro h;by_cases hb:65≤(b.toNat:Int)∧(b.toNat:Int)≤90
  ·have:=zi2 hb.1 hb.2
   rw[h]at this;simp at this;omega
  ·rw[zfb hb]at h;exact h
 ·rintro rfl;rfl
theorem zD8 {b:UInt8} (h:63<b.toNat):63<(lowB b).toNat:=by
 by_cases hb:65≤(b.toNat:Int)∧(b.toNat:Int)≤90
 ·have:=zi2 hb.1 hb.2;omega
 ·rw[zfb hb];exact h
theorem zra:∀(n:Nat) (l:List UInt8),l.length<n→zav (low l)=(zav l).map (·.map low)
 |0,_,h=>absurd h (by omega)
 |n+1,[],_=>rfl
 |n+1,b::r,h=>by
  have e:low (b::r)=lowB b::low r:=rfl
  rw[e,zbb,zbb];by_cases h0:b=0
  ·rw[if_pos h0,if_pos ((zr6 b).2 h0)];by_cases hr:r=[]
   ·subst hr;rfl
   ·have eL:low r≠[]:=fun e=>hr (List.map_eq_nil_iff.1 e)
    rw[if_neg hr,if_neg eL];rfl
  ·rw[if_neg h0,if_neg (fun e=>h0 ((zr6 b).1 e))]
   by_cases h1:63<b.toNat
   ·rw[if_pos h1,if_pos (zD8 h1)];rfl
   ·rw[if_neg h1,zF7 (by omega),if_neg h1]
    have e2:(low r).drop b.toNat=low (r.drop b.toNat):=by simp[low,List.map_drop]
    have e3:(low r).take b.toNat=low (r.take b.toNat):=by simp[low,List.map_take]
    simp only[List.length_cons]at h;rw[e2,e3,zra n (r.drop b.toNat) (by simp;omega)]
    cases zav (r.drop b.toNat)<;>simp
theorem zij (l:List UInt8):labelsOf (low l)=(labelsOf l).map (·.map low):=by
 unfold labelsOf;rw[zbg];split
 ·exact zra _ l (Nat.lt_succ_self _)
 ·rfl
theorem zF8 (l:List UInt8):low (low l)=low l:=by
 unfold low;rw[List.map_map];apply List.map_congr_left;intro b _;show lowB (lowB b)=lowB b
 by_cases hb:65≤(b.toNat:Int)∧(b.toNat:Int)≤90
 ·have:=zi2 hb.1 hb.2;exact zfb (by omega)
 ·rw[zfb hb,zfb hb]
theorem zF9 (l:List UInt8):may (low l)=may l:=by
 unfold may;rw[zij];cases labelsOf l<;>rfl
theorem znc (l:List UInt8) (w:World) (hl:l.length≤maxLen):
 Calls Tryz.prog 45 #[S l] w fun e w'=>e=.returned (S (low l))∧ExtD w w':=by
 unfold maxLen at hl;have dD:=run_bytes_of_string (P:=Tryz.prog) w 9 110 5 ⟨l.toArray⟩ Tryz.underlying9 Tryz.underlying110 Tryz.underlying5
 generalize hC:bytesRow ⟨l.toArray⟩ (grownCap w (ByteArray.mk l.toArray).size 0 5)=C at dD;generalize grownCap w (ByteArray.mk l.toArray).size 0 5=cap at dD hC;have HC:=Z7 hC
 clear hC;go_enter Tryz.func45,Tryz.ntmps45
 go_wp2
 go_loopw [10,4,5] (fun i a b wr=>∃k:Nat,k≤l.length∧i=.int .i64 k∧BRow wr w.heap.size l.length (zfc l k)∧ExtD w wr) (fun i _ _ _=>l.length - (intOf i).toNat)
 case atStart=>exact⟨0,by omega,rfl,zsp w l cap C HC.out,((ExtD.refl w).alloc _).drew⟩
 case round=>
  obtain⟨k,hk,rfl,hB,hE⟩:=hrel
  have HB:=Z7 hB
  clear hB;by_cases ab:k<l.length
  ·obtain⟨b,Hb,cg,dp,aB⟩:=zbu l k ab
   have hc:wr.cell? ⟨w.heap.size,k,none⟩=some (.int .u8 (b.toNat:Int)):=by
    rw[(HB.out k ab).1];simp[zfc,ab,Hb.out]
   have hf:wr.frozen? ⟨w.heap.size,k,none⟩=false:=(HB.out k ab).2
   have Hs:=Z7 (zp6 l k ab b Hb.out)
   clear cg dp
   go_wp2
   ·go_roundw
    case rel=>exact⟨k+1,by omega,by go_num,(HB.out.set ab _ _ (zi2 ‹_› ‹_›)).congr fun j _=>Hs.out j,hE.setCell (Z4 _) _⟩
    case measure=>simp[intOf];omega
   all_goals
    go_roundw
    case rel=>exact⟨k+1,by omega,by go_num,HB.out.congr fun j _=>by rw[Hs.out j,zfb (by omega)];(split;· (rename_i e;subst e;simp[zfc,ab,Hb.out]));rfl,hE⟩
    case measure=>simp[intOf];omega
  ·have lj:=run_convert_bytes_back (P:=Tryz.prog) wr 110 9 5 ⟨w.heap.size,0,none⟩ cap (low l) Tryz.underlying110 Tryz.underlying5 Tryz.underlying9 (fun j hj=>by
    have dP:j<l.length:=by rw[zbg]at hj;exact hj
    have:=(HB.out j dP).1
    rw[show(Addr.add ⟨w.heap.size,0,none⟩ j)=⟨w.heap.size,j,none⟩by unfold Addr.add;split<;>simp_all,this]
    simp[zfc,low,dP,show j<k by omega])
   rw[zbg]at lj
   go_wp2
   go_ret;exact⟨rfl,hE⟩
def zx2 (l:List (List UInt8)) (w:World) (e:Ending) (w':World):Prop:=∃v,e=.returned v∧OStrs w' w.heap.size v l∧ExtD w w'
theorem zjf (l:List UInt8) (x:List (List UInt8)) (w:World) (hx:labelsOf l=some x):Calls Tryz.prog 208 #[S l] w (zx2 x w):=by
 have hl:l.length≤255:=by
  unfold labelsOf at hx;split at hx
  ·assumption
  ·cases hx
 have hp:zav l=some x:=by
  unfold labelsOf at hx;rwa[if_pos hl]at hx
 clear hx;obtain⟨i0,aH,aF,aC,ax⟩:=info_parts zed
 have Hp:=Z7 hp
 clear hp;go_enter Tryz.func208,Tryz.ntmps208;go_wp2_with fail
 go_loopw [3,4] (fun o i wr=>∃(k:Nat) (ls rs:List (List UInt8)) (B:Option Addr) (d:Nat),k≤l.length∧ls.length≤k∧i=.int .i64 k∧o=.slice B ls.length d∧Own wr w.heap.size 9 1 B ls.length d (ls.map S)∧ExtD w wr∧x=ls++rs∧zav (l.drop k)=some rs) (fun _ i _=>l.length - (intOf i).toNat)
 case atStart=>exact⟨0,[],x,none,0,by omega,by simp,rfl,rfl,Own.nil _ _ _ _,ExtD.refl _,rfl,Hp.out⟩
 case round=>
  obtain⟨k,ls,rs,B,d,hk,CU,rfl,rfl,ag,hE,tC,fY⟩:=hrel
  obtain⟨wo,rfl⟩:∃wo:World,wo=wr:=⟨_,rfl⟩
  have ab:k<l.length:=by
   rcases Nat.lt_or_ge k l.length with h|h
   ·exact h
   ·rw[List.drop_of_length_le h,zbx]at fY;cases fY
  obtain⟨b,Hb,cg,dp,aB⟩:=zbu l k ab
  rw[zcc l k ab,Hb.out,zbb]at fY;have DM:=Z7 tC
  clear tC;by_cases h0:b.toNat=0
  ·have gL:b=0:=UInt8.toNat_inj.1 (by simpa using h0)
   rw[if_pos gL]at fY;have Bq:Hid (rs=[]):=by
    show rs=[]
    split at fY
    ·injection fY with h;exact h.symm
    ·cases fY
   have f1:((b.toNat:Int)==0)=true:=by rw[h0];rfl
   have f2:((b.toNat:Int)!=0)=false:=by rw[bne,f1];rfl
   clear gL h0 fY;go_wp2_with fail;go_ret;exact⟨_,rfl,by rw[DM.out,Bq.out,List.append_nil];exact⟨B,d,rfl,ag⟩,hE⟩
  ·have f1:((b.toNat:Int)==0)=false:=zbm h0
   have f2:((b.toNat:Int)!=0)=true:=by rw[bne,f1];rfl
   rw[if_neg (fun e=>h0 (by rw[e];rfl))]at fY
   by_cases kM:63<b.toNat
   ·rw[if_pos kM]at fY;cases fY
   rw[if_neg kM,List.drop_drop]at fY;rcases hq:zav (l.drop (k+1+b.toNat))with _|rs'
   ·rw[hq]at fY;cases fY
   ·rw[hq]at fY;injection fY with tE
    have ce:k+1+b.toNat<l.length:=by
     rcases Nat.lt_or_ge (k+1+b.toNat) l.length with h|h
     ·exact h
     ·rw[List.drop_of_length_le h,zbx]at hq;cases hq
    have Hq:=Z7 hq
    have Bq:=Z7 tE
    clear hq tE kM;have pf:¬(l.length:Int)<(k:Int)+1+(b.toNat:Int):=by omega
    have e2:((k:Int)+1+(b.toNat:Int)).toNat=k+1+b.toNat:=by omega
    have e3:k+1+b.toNat - (k+1)=b.toNat:=by omega
    go_wp2_with(
     at_builtin
     refine zvv _ rfl (.tmp 17) (.tmp 23) _ rfl w.heap.size 9 i0 _ 1 16 Tryz.underlying77 aH aF aC ax rfl (by omega) B ls.length d (ls.map S) rfl (ag.ext ((Z5 _).alloc _)) 0 _ 1 1 ([(l.drop (k+1)).take b.toNat].map S) rfl (zaw _ _ rfl _ _ 1 1 rfl) (zdg _) (by omega) (by omega) (by omega) (by have:=hE.1.size;simp;omega) ?_
     intro A5 c5 w5 ai GS bq aG _)
    go_roundw
    case rel=>
     refine⟨k+1+b.toNat,ls++[(l.drop (k+1)).take b.toNat],rs',A5,c5,by omega,by simp;omega,by go_num,by simp,?_,(hE.alloc _).then aG GS (Z4 _),?_,Hq.out⟩
     ·rw[Z6,List.map_append];exact ai
     ·rw[DM.out,←Bq.out,List.append_assoc];rfl
    case measure=>simp[intOf];omega
theorem zsc {k:IntKind} {a b:Int} (h:a=b):Value.int k a=Value.int k b:=by rw[h]
theorem cmpB (a b:List UInt8):Lib.compareBytes a b=if bl a b then -1 else if bl b a then 1 else 0:=by
 induction a generalizing b with
 |nil=>cases b<;>simp[Lib.compareBytes,bl,Op.bytesLess]
 |cons x a ih=>
  cases b with
  |nil=>simp[Lib.compareBytes,bl,Op.bytesLess]
  |cons y b=>
   simp only[Lib.compareBytes,bl,Op.bytesLess]at*;by_cases h1:x<y
   ·simp[h1]
   ·by_cases h2:y<x
    ·have h3:x≠y:=fun e=>by subst e;exact h1 h2
     simp[h1,h2,h3]
    ·have h3:x=y:=UInt8.le_antisymm (UInt8.not_lt.1 h2) (UInt8.not_lt.1 h1)
     subst h3;rw[if_neg h1,if_neg h1,ih b];simp[h1]
theorem zvo (a b:List UInt8) (w:World):Calls Tryz.prog 209 #[S a,S b] w fun e w'=>e=.returned (.int .i64 (if bl a b then -1 else if bl b a then 1 else 0))∧w'=w:=by
 have h:=Tryz.strings_Compare ⟨a.toArray⟩ ⟨b.toArray⟩ w
 rw[←cmpB];exact h
theorem zth (a b:List UInt8) (w:World) (ha:a.length≤maxLen) (hb:b.length≤maxLen):
 Calls Tryz.prog 145 #[S a,S b] w fun e w'=>e=.returned (.int .i64 (cmpN a b))∧ExtD w w':=by
 have hN:cmpN a b=match labelsOf a,labelsOf b with|some x,some y=>zb4 (x.map low).reverse (y.map low).reverse|_,_=>0:=rfl
 have oJ:may a=(labelsOf a).isSome:=rfl
 have rO:may b=(labelsOf b).isSome:=rfl
 obtain⟨R,hR⟩:∃R,R=cmpN a b:=⟨_,rfl⟩
 rw[←hR];rw[←hR]at hN;clear hR;have HA:=Z7 (fun W=>zbe a W ha)
 have HB:=Z7 (fun W=>zbe b W hb)
 have sZ:=Z7 (fun W=>znc a W ha)
 have DN:=Z7 (fun W=>znc b W hb)
 rcases hx:labelsOf a with _|x
 ·rw[hx]at hN oJ;rw[oJ]at HA;have HN:=Z7 (show R=0 from hN)
  clear hN hx oJ rO;go_enter Tryz.func145,Tryz.ntmps145;go_wp2_with fail;refine(HA.out w).mono ?_;rintro e w' ⟨rfl,rfl⟩;dsimp only[Option.isSome];go_wp2_with fail;go_ret;exact⟨by rw[HN.out];rfl,ExtD.refl _⟩
 rcases hy:labelsOf b with _|y
 ·rw[hx]at hN oJ;rw[hy]at hN rO;rw[oJ]at HA;rw[rO]at HB;have HN:=Z7 (show R=0 from hN)
  clear hN hx hy oJ rO;go_enter Tryz.func145,Tryz.ntmps145;go_wp2_with fail;refine(HA.out w).mono ?_;rintro e w' ⟨rfl,rfl⟩;dsimp only[Option.isSome];go_wp2_with fail;refine(HB.out w).mono ?_;rintro e w' ⟨rfl,rfl⟩;dsimp only[Option.isSome];go_wp2_with fail;go_ret;exact⟨by rw[HN.out];rfl,ExtD.refl _⟩
 have gF:=zee hx
 have ER:=zee hy
 have fO:a.length≤255:=zek (by unfold may;rw[hx];rfl)
 have cH:b.length≤255:=zek (by unfold may;rw[hy];rfl)
 have DO:=Z7 (fun W=>zjf (low a) (x.map low) W (by rw[zij,hx];rfl))
 have DP:=Z7 (fun W=>zjf (low b) (y.map low) W (by rw[zij,hy];rfl))
 rw[hy]at hN rO;rw[hx]at hN oJ;rw[oJ]at HA;rw[rO]at HB;have HN:=Z7 (show R=zb4 (x.map low).reverse (y.map low).reverse from hN)
 clear hN hx hy oJ rO;have m7:=zgv x
 have DQ:=zgv y
 have pk:(x.map low).length=x.length:=by simp
 have Br:(y.map low).length=y.length:=by simp
 go_enter Tryz.func145,Tryz.ntmps145;go_wp2_with fail;refine(HA.out w).mono ?_;rintro e w' ⟨rfl,rfl⟩;dsimp only[Option.isSome];go_wp2_with fail;refine(HB.out w).mono ?_;rintro e w' ⟨rfl,rfl⟩;dsimp only[Option.isSome];go_wp2_with fail;refine(sZ.out w).mono ?_;rintro e w0 ⟨rfl,aD⟩;go_wp2_with fail;refine(DO.out w0).mono ?_;rintro e w1 ⟨v1,rfl,bm,ae⟩;go_wp2_with fail;refine(DN.out w1).mono ?_;rintro e w2 ⟨rfl,ah⟩;go_wp2_with fail;refine(DP.out w2).mono ?_;rintro e w3 ⟨v2,rfl,aI,ao⟩;obtain⟨A1,c1,rfl,lu⟩:=bm.ext (ah.trans ao).1
 obtain⟨A2,c2,rfl,iZ⟩:=aI
 have kb:=lu.rd
 have eM:=iZ.rd
 have dB:ExtD w w3:=((aD.trans ae).trans ah).trans ao
 rw[pk]at kb ⊢;rw[Br]at eM ⊢;have J6:=Z7 pk
 have J7:=Z7 Br
 clear bm lu iZ HA HB sZ DN DO DP pk Br;have HX:=Z7 m7
 have HY:=Z7 DQ
 clear m7 DQ;go_wp2_with fail
 go_loopw [7,8] (fun i j wr=>∃k:Nat,k≤x.length∧k≤y.length∧i=.int .i64 ((x.length:Int) - 1 - k)∧j=.int .i64 ((y.length:Int) - 1 - k)∧R=zb4 ((x.map low).reverse.drop k) ((y.map low).reverse.drop k)∧ExtD w3 wr) (fun i _ _=>(intOf i+1).toNat)
 case atStart=>exact⟨0,by omega,by omega,zsc (by omega),zsc (by omega),by rw[HN.out];rfl,ExtD.refl _⟩
 case round=>
  obtain⟨k,iC,lv,rfl,rfl,hrel,hE⟩:=hrel
  obtain⟨wo,rfl⟩:∃wo:World,wo=wr:=⟨_,rfl⟩
  have HR:=Z7 hrel
  clear hrel HN;by_cases eT:k<x.length
  ·by_cases kQ:k<y.length
   ·obtain⟨bx,ox,rfl,_,sY,uq⟩:=kb.2 (by omega)
    obtain⟨by_,oy,rfl,_,bw,ur⟩:=eM.2 (by omega)
    have cx:=uq (x.length - 1 - k) (S (low x[x.length - 1 - k])) (by rw[List.getElem?_map,List.getElem?_map,Z3 (by omega)];rfl)
    have cy:=ur (y.length - 1 - k) (S (low y[y.length - 1 - k])) (by rw[List.getElem?_map,List.getElem?_map,Z3 (by omega)];rfl)
    rw[←hE.1.cell (p:=⟨bx,_,none⟩) sY]at cx
    rw[←hE.1.cell (p:=⟨by_,_,none⟩) bw]at cy
    have xY:=Z7 (HX.out k eT)
    have zp:=Z7 (HY.out k kQ)
    generalize low x[x.length - 1 - k]=s at*;generalize low y[y.length - 1 - k]=t at*;clear uq ur kb eM;rw[xY.out,zp.out,zfj]at HR;have HC:=Z7 (fun W=>zvo s t W)
    have p2:(0:Int)≤(x.length:Int) - 1 - (k:Int):=by omega
    have p3:(x.length:Int) - 1 - (k:Int)<(x.length:Int):=by omega
    have p4:((x.length:Int) - 1 - (k:Int)).toNat=x.length - 1 - k:=by omega
    have q2:(0:Int)≤(y.length:Int) - 1 - (k:Int):=by omega
    have q3:(y.length:Int) - 1 - (k:Int)<(y.length:Int):=by omega
    have q4:((y.length:Int) - 1 - (k:Int)).toNat=y.length - 1 - k:=by omega
    by_cases h1:bl s t=true
    ·have HF:=Z7 (show R= -1 by rw[HR.out,if_pos h1])
     rw[if_pos h1]at HC;clear h1;go_wp2_with fail
     go_quiet ((go_at_call 209;exact Calls.quiet_of_same (HC.out _)))
     go_wp2_with fail;go_ret;exact⟨by rw[HF.out];rfl,(dB.trans hE).drewN _⟩
    ·by_cases h2:bl t s=true
     ·have HF:=Z7 (show R=1 by rw[HR.out,if_neg h1,if_pos h2])
      rw[if_neg h1,if_pos h2]at HC;clear h1 h2;go_wp2_with fail
      go_quiet ((go_at_call 209;exact Calls.quiet_of_same (HC.out _)))
      go_wp2_with fail;go_ret;exact⟨by rw[HF.out];rfl,(dB.trans hE).drewN _⟩
     ·have HF:=Z7 (show R=zb4 ((x.map low).reverse.drop (k+1)) ((y.map low).reverse.drop (k+1))by rw[HR.out,if_neg h1,if_neg h2])
      rw[if_neg h1,if_neg h2]at HC;clear h1 h2;go_wp2_with fail
      go_quiet ((go_at_call 209;exact Calls.quiet_of_same (HC.out _)))
      go_wp2_with fail;go_roundw
      case rel=>exact⟨k+1,by omega,by omega,zsc (by omega),zsc (by omega),HF.out,hE.drewN _⟩
      case measure=>simp[intOf];omega
   ·have qz:k=y.length:=by omega
    have HF:=Z7 (show R=1 by
     rw[HR.out,show(y.map low).reverse.drop k=[]from List.drop_of_length_le (by simp;omega),HX.out k eT];rfl)
    have p2:(0:Int)≤(x.length:Int) - 1 - (k:Int):=by omega
    have q2:¬(0:Int)≤(y.length:Int) - 1 - (k:Int):=by omega
    have q3:¬((x.length:Int) - 1 - (k:Int)<(y.length:Int) - 1 - (k:Int)):=by omega
    have q4:(y.length:Int) - 1 - (k:Int)<(x.length:Int) - 1 - (k:Int):=by omega
    clear qz HR;go_wp2_with fail;go_ret;exact⟨by rw[HF.out];rfl,dB.trans hE⟩
  ·have p2:¬(0:Int)≤(x.length:Int) - 1 - (k:Int):=by omega
   by_cases kQ:k<y.length
   ·have HF:=Z7 (show R= -1 by
     rw[HR.out,show(x.map low).reverse.drop k=[]from List.drop_of_length_le (by simp;omega),HY.out k kQ];rfl)
    clear HR;have q4:(x.length:Int) - 1 - (k:Int)<(y.length:Int) - 1 - (k:Int):=by omega
    go_wp2_with fail;go_ret;exact⟨by rw[HF.out];rfl,dB.trans hE⟩
   ·have HF:=Z7 (show R=0 by
     rw[HR.out,show(x.map low).reverse.drop k=[]from List.drop_of_length_le (by simp;omega),show(y.map low).reverse.drop k=[]from List.drop_of_length_le (by simp;omega)];rfl)
    clear HR;have q3:¬((x.length:Int) - 1 - (k:Int)<(y.length:Int) - 1 - (k:Int)):=by omega
    have q4:¬((y.length:Int) - 1 - (k:Int)<(x.length:Int) - 1 - (k:Int)):=by omega
    go_wp2_with fail;go_ret;exact⟨by rw[HF.out];rfl,dB.trans hE⟩
theorem zw5 (x:Int) (w:World):Calls Tryz.prog 210 #[.int .u16 x] w fun e w'=>e=.returned (.bool false)∧w=w':=by
 go_enter Tryz.func210,Tryz.ntmps210;go_wp2_with fail;go_ret;exact⟨by simp,rfl⟩
def cmpI (x y:Int):Int:=if x<y then -1 else if y<x then 1 else 0
theorem zw6 (x y:Int) (w:World):Calls Tryz.prog 146 #[.int .u16 x,.int .u16 y] w fun e w'=>e=.returned (.int .i64 (cmpI x y))∧w=w':=by
 have HX:=Z7 (zw5 x w)
 have HY:=Z7 (zw5 y w)
 unfold cmpI;by_cases h1:x<y
 ·rw[if_pos h1];go_enter Tryz.func146,Tryz.ntmps146;go_wp2_with fail;refine HX.out.mono ?_;rintro e w' ⟨rfl,rfl⟩;go_wp2_with fail;refine HY.out.mono ?_;rintro e w' ⟨rfl,rfl⟩;go_wp2_with fail;go_ret;exact⟨rfl,rfl⟩
 ·rw[if_neg h1];have J8:decide (x<y)=false:=by simpa using h1
  by_cases h2:y<x
  ·rw[if_pos h2];go_enter Tryz.func146,Tryz.ntmps146;go_wp2_with fail;refine HX.out.mono ?_;rintro e w' ⟨rfl,rfl⟩;go_wp2_with fail;refine HY.out.mono ?_;rintro e w' ⟨rfl,rfl⟩;go_wp2_with fail;go_ret;exact⟨rfl,rfl⟩
  ·rw[if_neg h2];have J9:decide (y<x)=false:=by simpa using h2
   go_enter Tryz.func146,Tryz.ntmps146;go_wp2_with fail;refine HX.out.mono ?_;rintro e w' ⟨rfl,rfl⟩;go_wp2_with fail;refine HY.out.mono ?_;rintro e w' ⟨rfl,rfl⟩;go_wp2_with fail;go_ret;exact⟨rfl,rfl⟩
end Go.Proofs.YtdnpmapelmjfpaaGreatDoor
