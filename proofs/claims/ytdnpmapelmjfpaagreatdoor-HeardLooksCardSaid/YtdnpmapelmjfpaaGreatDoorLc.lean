/- Lemmas of this claim. No condition. -/
import Derived.Test.YtdnpmapelmjfpaaGreatDoorLb
import Derived.RegionTactic
import Derived.BigRegion
import Derived.StillTailTactics
import Derived.Laws.EntriesVeiled
import Derived.Deep.DeepMust
set_option maxHeartbeats 1000000
set_option linter.unusedVariables false
set_option linter.unusedSimpArgs false
set_option maxRecDepth 100000
namespace Go.Proofs.YtdnpmapelmjfpaaGreatDoor
open Go.RowKit
abbrev Pc.val (p:Pc):Value:=.agg #[S p.text,.bool p.nm,.int .i64 p.next]
theorem zs1 (msg:List UInt8) (pos n b:Nat) (w:World) (hl:msg.length≤140737488351232) (hp:pos≤msg.length) (hn:n≤65535) (hc:w.cell? ⟨b,0,none⟩=some (.int .i64 n)) (h:msg.length - pos<n):
 Calls Tryz.prog 245 #[S msg,.int .i64 pos,.pointer (some ⟨b,0,none⟩)] w fun e w'=>e=.returned (.tuple #[Pc.zero.val,.int .i64 4])∧Ext w w':=by
 have hb:=World.block_lt_of_cell? w _ hc
 have h1:(msg.length:Int) - pos<n:=by omega
 go_enter Tryz.func245,Tryz.ntmps245
 go_wp2
 refine bodyPost_ret (v:=.tuple #[Pc.zero.val,.int .i64 4]) (by simp[results,Tryz.results245,go_sem,Pc.zero]) rfl ⟨rfl,?_⟩
 exact xt
theorem zEq (msg:List UInt8) (pos n b:Nat) (w:World) (hl:msg.length≤140737488351232) (hp:pos≤msg.length) (hn:n≤65535) (hc:w.cell? ⟨b,0,none⟩=some (.int .i64 n)) (h:¬msg.length - pos<n):
 Calls Tryz.prog 245 #[S msg,.int .i64 pos,.pointer (some ⟨b,0,none⟩)] w fun e w'=>e=.returned (.tuple #[Pc.val ⟨(msg.drop pos).take n,false,pos+n⟩,.int .i64 0])∧Ext w w':=by
 have hb:=World.block_lt_of_cell? w _ hc
 have h1:(n:Int)≤(msg.length:Int) - pos:=by omega
 have h2:((pos:Int)+n).toNat=pos+n:=by omega
 have h3:(pos:Int)+n≤msg.length:=by omega
 go_enter Tryz.func245,Tryz.ntmps245
 go_wp2
 go_region
 go_wp2
 refine bodyPost_ret (v:=.tuple #[Pc.val ⟨(msg.drop pos).take n,false,pos+n⟩,.int .i64 0]) (by simp[results,Tryz.results245,go_sem]) rfl ⟨rfl,?_⟩
 exact xt
theorem zCg (msg:List UInt8) (pos:Nat) (w:World) (hl:msg.length≤140737488351232) (hp:pos≤msg.length):
 Calls Tryz.prog 248 #[S msg,.int .i64 pos] w fun e w'=>e=.returned (.tuple #[Pc.val ⟨msg.drop pos,false,msg.length⟩,.int .i64 0])∧Ext w w':=by
 have e1:(msg.drop pos).take (msg.length - pos)=msg.drop pos:=List.take_of_length_le (by simp)
 have h2:(pos:Int)≤msg.length:=by omega
 go_enter Tryz.func248,Tryz.ntmps248
 go_wp2
 refine bodyPost_ret (v:=.tuple #[Pc.val ⟨msg.drop pos,false,msg.length⟩,.int .i64 0]) (by simp[results,Tryz.results248,go_sem,e1]) rfl ⟨rfl,?_⟩
 exact xt
theorem zs0 (msg:List UInt8) (pos:Nat) (w:World) (hg:Laid w) (hl:msg.length≤140737488351232) (hp:pos≤msg.length) (h:(readN msg pos).2.2≠0):
 Calls Tryz.prog 246 #[S msg,.int .i64 pos] w fun e w'=>e=.returned (.tuple #[Pc.zero.val,.int .i64 (readN msg pos).2.2])∧Ext w w':=by
 have bh:=hg.ext ((Z5 w).alloc (.cells #[.string ⟨#[]⟩,.bool false,.int .i64 0] 242))
 have Hr:=Z7 (zj2 msg pos _ bh hl hp)
 generalize readN msg pos=R at*;obtain⟨r1,r2,r3⟩:=R
 dsimp only at*;have h1:((r3:Int)==0)=false:=zbm h
 have h2:((r3:Int)!=0)=true:=by rw[bne,h1];rfl
 clear h;go_enter Tryz.func246,Tryz.ntmps246;go_wp2_with(go_at_call 134;refine Hr.out.mono ?_;rintro e w' ⟨rfl,hE⟩;obtain⟨hq,bU,bP⟩:=zap hE)
 refine bodyPost_ret (v:=.tuple #[Pc.zero.val,.int .i64 r3]) (by simp[results,Tryz.results246,go_sem,Pc.zero,hq,bU,bP]) rfl ⟨rfl,?_⟩
 have EK:Ext w w':=((Z5 w).alloc _).trans hE
 exact xt
theorem zzo (msg:List UInt8) (pos:Nat) (w:World) (hg:Laid w) (hl:msg.length≤140737488351232) (hp:pos≤msg.length) (h:(readN msg pos).2.2=0):
 Calls Tryz.prog 246 #[S msg,.int .i64 pos] w fun e w'=>e=.returned (.tuple #[Pc.val ⟨(readN msg pos).1,true,(readN msg pos).2.1⟩,.int .i64 0])∧Ext w w':=by
 have bh:=hg.ext ((Z5 w).alloc (.cells #[.string ⟨#[]⟩,.bool false,.int .i64 0] 242))
 have Hr:=Z7 (zj2 msg pos _ bh hl hp)
 generalize readN msg pos=R at*;obtain⟨r1,r2,r3⟩:=R
 dsimp only at*;subst h;go_enter Tryz.func246,Tryz.ntmps246;go_wp2_with(go_at_call 134;refine Hr.out.mono ?_;rintro e w' ⟨rfl,hE⟩;obtain⟨hq,bU,bP⟩:=zap hE)
 refine bodyPost_ret (v:=.tuple #[Pc.val ⟨r1,true,r2⟩,.int .i64 0]) (by simp[results,Tryz.results246,go_sem,hq,bU,bP]) rfl ⟨rfl,?_⟩
 have EK:Ext w w':=((Z5 w).alloc _).trans hE
 exact xt
theorem znp {msg:List UInt8} {k:Nat} (hk:k<msg.length) (b:UInt8) (hb:msg[k]=b) (h:(msg.length:Int)<(k:Int)+(1+(b.toNat:Int))):zbq (msg.drop k)=false:=by
 rw[zcc msg k hk,hb,zmj,if_pos (by simp;omega)]
theorem zpp {msg:List UInt8} {k:Nat} (hk:k<msg.length) (b:UInt8) (hb:msg[k]=b) (h:(k:Int)+(1+(b.toNat:Int))≤msg.length):
 zbq (msg.drop k)=if k+(1+b.toNat)=msg.length then true else zbq (msg.drop (k+(1+b.toNat))):=by
 rw[zcc msg k hk,hb,zmj,if_neg (by simp;omega)]
 by_cases e:k+(1+b.toNat)=msg.length
 ·rw[if_pos e,if_pos (by simp;omega)]
 ·rw[if_neg e,if_neg (by simp;omega),List.drop_drop]
  congr 2;omega
def zGs (msg:List UInt8) (pos k:Nat) (first:Bool):Prop:=
 pos≤k∧k≤msg.length∧(first=true→k=pos)∧zbq (msg.drop pos)=if first=false∧k=msg.length then true else zbq (msg.drop k)
theorem zzp (msg:List UInt8) (pos:Nat) (w:World) (hl:msg.length≤140737488351232) (hp:pos≤msg.length):
 Calls Tryz.prog 247 #[S msg,.int .i64 pos] w fun e w'=>e=.returned (if zbq (msg.drop pos)then .tuple #[Pc.val ⟨msg.drop pos,false,msg.length⟩,.int .i64 0]else .tuple #[Pc.zero.val,.int .i64 4])∧Ext w w':=by
 obtain⟨T,hT⟩:∃T,T=zbq (msg.drop pos):=⟨_,rfl⟩
 rw[←hT];have HT:=Z7 hT
 clear hT;obtain⟨V,hV⟩:∃V:Value,V=if T then .tuple #[Pc.val ⟨msg.drop pos,false,msg.length⟩,.int .i64 0]else .tuple #[Pc.zero.val,.int .i64 4]:=⟨_,rfl⟩
 rw[←hV];have HV:=Z7 hV
 clear hV;go_enter Tryz.func247,Tryz.ntmps247
 go_wp2
 go_loop [6,7] (fun k f=>∃(n:Nat) (first:Bool),k=.int .i64 n∧f=.bool first∧zGs msg pos n first) (fun k _=>msg.length - (intOf k).toNat)
 case atStart=>exact⟨pos,true,rfl,rfl,Z4 _,hp,fun _=>rfl,by simp⟩
 case round=>
  obtain⟨k,first,rfl,rfl,hI⟩:=hrel
  have hk:k≤msg.length:=hI.2.1
  have ud:pos≤k:=hI.1
  by_cases ab:k<msg.length
  ·obtain⟨b,Hb,cg,dp,aB⟩:=zbu msg k ab
   have HI:Hid (T=zbq (msg.drop k)):=by
    have h4:=hI.2.2.2
    rw[if_neg (by omega),←HT.out]at h4
    exact h4
   have f1:((k:Int)==(msg.length:Int))=false:=by rw[beq_eq_false_iff_ne];omega
   by_cases cZ:(msg.length:Int)<(k:Int)+(1+(b.toNat:Int))
   ·have HF:=Z7 (znp ab b Hb.out cZ)
    rcases first with _|_
    all_goals
     go_wp2
     refine bodyPost_ret (v:=.tuple #[Pc.zero.val,.int .i64 4]) (by simp[results,Tryz.results247,go_sem,Pc.zero]) rfl ⟨?_,?_⟩
     ·rw[HV.out,HI.out,HF.out];rfl
     ·exact xt
   ·have HF:=Z7 (zpp ab b Hb.out (by omega))
    have ue:(k:Int)+(1+(b.toNat:Int))≤msg.length:=by omega
    rcases first with _|_
    all_goals
     go_wp2
     go_round
     case rel=>
      refine⟨k+(1+b.toNat),false,by go_num,rfl,by omega,by omega,by simp,?_⟩
      rw[←HT.out,HI.out,HF.out];by_cases e:k+(1+b.toNat)=msg.length
      ·rw[if_pos e,if_pos ⟨rfl,e⟩]
      ·rw[if_neg e,if_neg (by simp[e])]
     case measure=>simp[intOf];omega
  ·obtain rfl:k=msg.length:=by omega
   rcases first with _|_
   ·have HI:Hid (T=true):=by
     have h4:=hI.2.2.2
     rw[if_pos ⟨rfl,rfl⟩,←HT.out]at h4;exact h4
    have e1:(msg.drop pos).take (msg.length - pos)=msg.drop pos:=List.take_of_length_le (by simp)
    have h2:(pos:Int)≤msg.length:=by omega
    clear ab
    go_wp2
    refine bodyPost_ret (v:=.tuple #[Pc.val ⟨msg.drop pos,false,msg.length⟩,.int .i64 0]) (by simp[results,Tryz.results247,go_sem,e1]) rfl ⟨?_,?_⟩
    ·rw[HV.out,HI.out];rfl
    ·exact xt
   ·have HI:Hid (T=false):=by
     have h4:=hI.2.2.2
     rw[if_neg (by simp),←HT.out,List.drop_of_length_le (Z4 _)]at h4
     exact h4
    clear ab
    go_wp2
    refine bodyPost_ret (v:=.tuple #[Pc.zero.val,.int .i64 4]) (by simp[results,Tryz.results247,go_sem,Pc.zero]) rfl ⟨?_,?_⟩
    ·rw[HV.out,HI.out];rfl
    ·exact xt
theorem zdd (n:Int) (w:World):Calls Tryz.prog 229 #[.int .i64 n] w fun e w'=>e=.returned (.func (.func 245) #[] #[.pointer (some ⟨w.heap.size,0,none⟩)])∧w'=w.alloc (.cells #[.int .i64 n] 3):=by
 go_enter Tryz.func229,Tryz.ntmps229
 go_wp2
 go_ret;exact⟨rfl,rfl⟩
theorem zdz (w:World):Calls Tryz.prog 230 #[] w fun e w'=>e=.returned (.func (.func 246) #[] #[])∧w=w':=by
 go_enter Tryz.func230,Tryz.ntmps230
 go_wp2
 go_ret;exact⟨rfl,rfl⟩
theorem ze0 (w:World):Calls Tryz.prog 231 #[] w fun e w'=>e=.returned (.func (.func 247) #[] #[])∧w=w':=by
 go_enter Tryz.func231,Tryz.ntmps231
 go_wp2
 go_ret;exact⟨rfl,rfl⟩
theorem zeo (w:World):Calls Tryz.prog 232 #[] w fun e w'=>e=.returned (.func (.func 248) #[] #[])∧w=w':=by
 go_enter Tryz.func232,Tryz.ntmps232
 go_wp2
 go_ret;exact⟨rfl,rfl⟩
def ChkV (w:World) (v:Value):Option Chk→Prop
 |none=>v=.nilFunc
 |some c=>match c.kind with
  |0=>∃b,v=.func (.func 245) #[] #[.pointer (some ⟨b,0,none⟩)]∧w.cell? ⟨b,0,none⟩=some (.int .i64 c.n)
  |1=>v=.func (.func 246) #[] #[]
  |2=>v=.func (.func 247) #[] #[]
  |_=>v=.func (.func 248) #[] #[]
theorem ChkV.ext {w w':World} {v:Value} {o:Option Chk} (h:ChkV w v o) (hE:Ext w w'):ChkV w' v o:=by
 rcases o with _|⟨k,n⟩
 ·exact h
 ·match k,h with
  |0,⟨b,e,hc⟩=>exact⟨b,e,(hE.cell (p:=⟨b,0,none⟩) (World.block_lt_of_cell? w _ hc)).trans hc⟩
  |1,h=>exact h
  |2,h=>exact h
  |_+3,h=>exact h
def zEa (w:World) (v:Value) (l:List Chk):Prop:=∃v0 v1 v2,v=.agg #[v0,v1,v2]∧l.length≤3∧ChkV w v0 l[0]? ∧ChkV w v1 l[1]? ∧ChkV w v2 l[2]?
def zdh (k:Int) (w:World) (e:Ending) (w':World):Prop:=∃v,e=.returned v∧zEa w' v (checksOf k)∧Ext w w'
theorem zEm (w:World) (hc:checksOf 1=[⟨0,4⟩]):Calls Tryz.prog 188 #[.int .u16 1] w (zdh 1 w):=by
 have Hc:=Z7 hc
 clear hc;go_enter Tryz.func188,Tryz.ntmps188;go_wp2_with(first|(go_at_call 229;refine(zdd _ _).mono ?_;rintro e w' ⟨rfl,rfl⟩)|(go_at_call 230;refine(zdz _).mono ?_;rintro e w' ⟨rfl,rfl⟩)|(go_at_call 231;refine(ze0 _).mono ?_;rintro e w' ⟨rfl,rfl⟩)|(go_at_call 232;refine(zeo _).mono ?_;rintro e w' ⟨rfl,rfl⟩))
 refine bodyPost_ret (v:=.agg #[.func (.func 245) #[] #[.pointer (some ⟨w.heap.size+1,0,none⟩)],.nilFunc,.nilFunc]) (by simp[results,Tryz.results188,go_sem]) rfl ⟨_,rfl,⟨_,_,_,rfl,?_⟩,?_⟩
 ·rw[Hc.out];refine⟨by decide,?_,?_,?_⟩<;>first|rfl|exact⟨_,rfl,by simp[go_sem]⟩
 ·exact xt
theorem zCd (w:World) (hc:checksOf 28=[⟨0,16⟩]):Calls Tryz.prog 188 #[.int .u16 28] w (zdh 28 w):=by
 have Hc:=Z7 hc
 clear hc;go_enter Tryz.func188,Tryz.ntmps188;go_wp2_with(first|(go_at_call 229;refine(zdd _ _).mono ?_;rintro e w' ⟨rfl,rfl⟩)|(go_at_call 230;refine(zdz _).mono ?_;rintro e w' ⟨rfl,rfl⟩)|(go_at_call 231;refine(ze0 _).mono ?_;rintro e w' ⟨rfl,rfl⟩)|(go_at_call 232;refine(zeo _).mono ?_;rintro e w' ⟨rfl,rfl⟩))
 refine bodyPost_ret (v:=.agg #[.func (.func 245) #[] #[.pointer (some ⟨w.heap.size+1,0,none⟩)],.nilFunc,.nilFunc]) (by simp[results,Tryz.results188,go_sem]) rfl ⟨_,rfl,⟨_,_,_,rfl,?_⟩,?_⟩
 ·rw[Hc.out];refine⟨by decide,?_,?_,?_⟩<;>first|rfl|exact⟨_,rfl,by simp[go_sem]⟩
 ·exact xt
theorem zEn (w:World) (hc:checksOf 2=[⟨1,0⟩]):Calls Tryz.prog 188 #[.int .u16 2] w (zdh 2 w):=by
 have Hc:=Z7 hc
 clear hc;go_enter Tryz.func188,Tryz.ntmps188;go_wp2_with(first|(go_at_call 229;refine(zdd _ _).mono ?_;rintro e w' ⟨rfl,rfl⟩)|(go_at_call 230;refine(zdz _).mono ?_;rintro e w' ⟨rfl,rfl⟩)|(go_at_call 231;refine(ze0 _).mono ?_;rintro e w' ⟨rfl,rfl⟩)|(go_at_call 232;refine(zeo _).mono ?_;rintro e w' ⟨rfl,rfl⟩))
 refine bodyPost_ret (v:=.agg #[.func (.func 246) #[] #[],.nilFunc,.nilFunc]) (by simp[results,Tryz.results188,go_sem]) rfl ⟨_,rfl,⟨_,_,_,rfl,?_⟩,?_⟩
 ·rw[Hc.out];refine⟨by decide,?_,?_,?_⟩<;>first|rfl|exact⟨_,rfl,by simp[go_sem]⟩
 ·exact xt
theorem zEo (w:World) (hc:checksOf 5=[⟨1,0⟩]):Calls Tryz.prog 188 #[.int .u16 5] w (zdh 5 w):=by
 have Hc:=Z7 hc
 clear hc;go_enter Tryz.func188,Tryz.ntmps188;go_wp2_with(first|(go_at_call 229;refine(zdd _ _).mono ?_;rintro e w' ⟨rfl,rfl⟩)|(go_at_call 230;refine(zdz _).mono ?_;rintro e w' ⟨rfl,rfl⟩)|(go_at_call 231;refine(ze0 _).mono ?_;rintro e w' ⟨rfl,rfl⟩)|(go_at_call 232;refine(zeo _).mono ?_;rintro e w' ⟨rfl,rfl⟩))
 refine bodyPost_ret (v:=.agg #[.func (.func 246) #[] #[],.nilFunc,.nilFunc]) (by simp[results,Tryz.results188,go_sem]) rfl ⟨_,rfl,⟨_,_,_,rfl,?_⟩,?_⟩
 ·rw[Hc.out];refine⟨by decide,?_,?_,?_⟩<;>first|rfl|exact⟨_,rfl,by simp[go_sem]⟩
 ·exact xt
theorem zCa (w:World) (hc:checksOf 12=[⟨1,0⟩]):Calls Tryz.prog 188 #[.int .u16 12] w (zdh 12 w):=by
 have Hc:=Z7 hc
 clear hc;go_enter Tryz.func188,Tryz.ntmps188;go_wp2_with(first|(go_at_call 229;refine(zdd _ _).mono ?_;rintro e w' ⟨rfl,rfl⟩)|(go_at_call 230;refine(zdz _).mono ?_;rintro e w' ⟨rfl,rfl⟩)|(go_at_call 231;refine(ze0 _).mono ?_;rintro e w' ⟨rfl,rfl⟩)|(go_at_call 232;refine(zeo _).mono ?_;rintro e w' ⟨rfl,rfl⟩))
 refine bodyPost_ret (v:=.agg #[.func (.func 246) #[] #[],.nilFunc,.nilFunc]) (by simp[results,Tryz.results188,go_sem]) rfl ⟨_,rfl,⟨_,_,_,rfl,?_⟩,?_⟩
 ·rw[Hc.out];refine⟨by decide,?_,?_,?_⟩<;>first|rfl|exact⟨_,rfl,by simp[go_sem]⟩
 ·exact xt
theorem zCb (w:World) (hc:checksOf 15=[⟨0,2⟩,⟨1,0⟩]):Calls Tryz.prog 188 #[.int .u16 15] w (zdh 15 w):=by
 have Hc:=Z7 hc
 clear hc;go_enter Tryz.func188,Tryz.ntmps188;go_wp2_with(first|(go_at_call 229;refine(zdd _ _).mono ?_;rintro e w' ⟨rfl,rfl⟩)|(go_at_call 230;refine(zdz _).mono ?_;rintro e w' ⟨rfl,rfl⟩)|(go_at_call 231;refine(ze0 _).mono ?_;rintro e w' ⟨rfl,rfl⟩)|(go_at_call 232;refine(zeo _).mono ?_;rintro e w' ⟨rfl,rfl⟩))
 refine bodyPost_ret (v:=.agg #[.func (.func 245) #[] #[.pointer (some ⟨w.heap.size+1,0,none⟩)],.func (.func 246) #[] #[],.nilFunc]) (by simp[results,Tryz.results188,go_sem]) rfl ⟨_,rfl,⟨_,_,_,rfl,?_⟩,?_⟩
 ·rw[Hc.out];refine⟨by decide,?_,?_,?_⟩<;>first|rfl|exact⟨_,rfl,by simp[go_sem]⟩
 ·exact xt
theorem zEp (w:World) (hc:checksOf 6=[⟨1,0⟩,⟨1,0⟩,⟨0,20⟩]):Calls Tryz.prog 188 #[.int .u16 6] w (zdh 6 w):=by
 have Hc:=Z7 hc
 clear hc;go_enter Tryz.func188,Tryz.ntmps188;go_wp2_with(first|(go_at_call 229;refine(zdd _ _).mono ?_;rintro e w' ⟨rfl,rfl⟩)|(go_at_call 230;refine(zdz _).mono ?_;rintro e w' ⟨rfl,rfl⟩)|(go_at_call 231;refine(ze0 _).mono ?_;rintro e w' ⟨rfl,rfl⟩)|(go_at_call 232;refine(zeo _).mono ?_;rintro e w' ⟨rfl,rfl⟩))
 refine bodyPost_ret (v:=.agg #[.func (.func 246) #[] #[],.func (.func 246) #[] #[],.func (.func 245) #[] #[.pointer (some ⟨w.heap.size+1,0,none⟩)]]) (by simp[results,Tryz.results188,go_sem]) rfl ⟨_,rfl,⟨_,_,_,rfl,?_⟩,?_⟩
 ·rw[Hc.out];refine⟨by decide,?_,?_,?_⟩<;>first|rfl|exact⟨_,rfl,by simp[go_sem]⟩
 ·exact xt
theorem zCe (w:World) (hc:checksOf 33=[⟨0,6⟩,⟨1,0⟩]):Calls Tryz.prog 188 #[.int .u16 33] w (zdh 33 w):=by
 have Hc:=Z7 hc
 clear hc;go_enter Tryz.func188,Tryz.ntmps188;go_wp2_with(first|(go_at_call 229;refine(zdd _ _).mono ?_;rintro e w' ⟨rfl,rfl⟩)|(go_at_call 230;refine(zdz _).mono ?_;rintro e w' ⟨rfl,rfl⟩)|(go_at_call 231;refine(ze0 _).mono ?_;rintro e w' ⟨rfl,rfl⟩)|(go_at_call 232;refine(zeo _).mono ?_;rintro e w' ⟨rfl,rfl⟩))
 refine bodyPost_ret (v:=.agg #[.func (.func 245) #[] #[.pointer (some ⟨w.heap.size+1,0,none⟩)],.func (.func 246) #[] #[],.nilFunc]) (by simp[results,Tryz.results188,go_sem]) rfl ⟨_,rfl,⟨_,_,_,rfl,?_⟩,?_⟩
 ·rw[Hc.out];refine⟨by decide,?_,?_,?_⟩<;>first|rfl|exact⟨_,rfl,by simp[go_sem]⟩
 ·exact xt
theorem zCc (w:World) (hc:checksOf 16=[⟨2,0⟩]):Calls Tryz.prog 188 #[.int .u16 16] w (zdh 16 w):=by
 have Hc:=Z7 hc
 clear hc;go_enter Tryz.func188,Tryz.ntmps188;go_wp2_with(first|(go_at_call 229;refine(zdd _ _).mono ?_;rintro e w' ⟨rfl,rfl⟩)|(go_at_call 230;refine(zdz _).mono ?_;rintro e w' ⟨rfl,rfl⟩)|(go_at_call 231;refine(ze0 _).mono ?_;rintro e w' ⟨rfl,rfl⟩)|(go_at_call 232;refine(zeo _).mono ?_;rintro e w' ⟨rfl,rfl⟩))
 refine bodyPost_ret (v:=.agg #[.func (.func 247) #[] #[],.nilFunc,.nilFunc]) (by simp[results,Tryz.results188,go_sem]) rfl ⟨_,rfl,⟨_,_,_,rfl,?_⟩,?_⟩
 ·rw[Hc.out];refine⟨by decide,?_,?_,?_⟩<;>first|rfl|exact⟨_,rfl,by simp[go_sem]⟩
 ·exact xt
theorem zxa (k:Int) (au:k≠1∧k≠28∧k≠2∧k≠5∧k≠12∧k≠15∧k≠6∧k≠33∧k≠16) (w:World) (hc:checksOf k=[⟨3,0⟩]):Calls Tryz.prog 188 #[.int .u16 k] w (zdh k w):=by
 have Hc:=Z7 hc
 clear hc;have g1:(k==1)=false:=by rw[beq_eq_false_iff_ne];omega
 have g28:(k==28)=false:=by rw[beq_eq_false_iff_ne];omega
 have g2:(k==2)=false:=by rw[beq_eq_false_iff_ne];omega
 have g5:(k==5)=false:=by rw[beq_eq_false_iff_ne];omega
 have g12:(k==12)=false:=by rw[beq_eq_false_iff_ne];omega
 have g15:(k==15)=false:=by rw[beq_eq_false_iff_ne];omega
 have g6:(k==6)=false:=by rw[beq_eq_false_iff_ne];omega
 have g33:(k==33)=false:=by rw[beq_eq_false_iff_ne];omega
 have g16:(k==16)=false:=by rw[beq_eq_false_iff_ne];omega
 clear au;go_enter Tryz.func188,Tryz.ntmps188;go_wp2_with(first|(go_at_call 229;refine(zdd _ _).mono ?_;rintro e w' ⟨rfl,rfl⟩)|(go_at_call 230;refine(zdz _).mono ?_;rintro e w' ⟨rfl,rfl⟩)|(go_at_call 231;refine(ze0 _).mono ?_;rintro e w' ⟨rfl,rfl⟩)|(go_at_call 232;refine(zeo _).mono ?_;rintro e w' ⟨rfl,rfl⟩))
 refine bodyPost_ret (v:=.agg #[.func (.func 248) #[] #[],.nilFunc,.nilFunc]) (by simp[results,Tryz.results188,go_sem]) rfl ⟨_,rfl,⟨_,_,_,rfl,?_⟩,?_⟩
 ·rw[Hc.out];refine⟨by decide,?_,?_,?_⟩<;>first|rfl|exact⟨_,rfl,by simp[go_sem]⟩
 ·exact xt
theorem zty (k:Int) (w:World):Calls Tryz.prog 188 #[.int .u16 k] w (zdh k w):=by
 by_cases h1:k=1
 ·subst h1;exact zEm w rfl
 by_cases iG:k=28
 ·subst iG;exact zCd w rfl
 by_cases h2:k=2
 ·subst h2;exact zEn w rfl
 by_cases h5:k=5
 ·subst h5;exact zEo w rfl
 by_cases dq:k=12
 ·subst dq;exact zCa w rfl
 by_cases eO:k=15
 ·subst eO;exact zCb w rfl
 by_cases h6:k=6
 ·subst h6;exact zEp w rfl
 by_cases iH:k=33
 ·subst iH;exact zCe w rfl
 by_cases iI:k=16
 ·subst iI;exact zCc w rfl
 exact zxa k ⟨h1,iG,h2,h5,dq,eO,h6,iH,iI⟩ w (by simp[checksOf,h1,iG,h2,h5,dq,eO,h6,iH,iI])
theorem zDo (msg:List UInt8) (n:Nat):∀(s:RdSt),(∀k,s.nx=some k→k≤msg.length)→s.out.length≤254→(zbr msg n s).2.1≤msg.length∧(zbr msg n s).1.length≤255:=by
 induction n with
 |zero=>intro s _ _;simp[zbr]
 |succ n ih=>
  intro s h1 h2;simp only[zbr];split
  ·simp
  ·rename_i b hb;have ab:s.pos<msg.length:=(List.getElem?_eq_some_iff.1 hb).1
   split
   ·rcases hn:s.nx with _|k
    ·simp;omega
    ·have:=h1 k hn;simp;omega
   ·split
    ·split
     ·simp
     ·split
      ·simp
      ·rename_i h0 t7 hl nc;have aq:((msg.drop (s.pos+1)).take b.toNat).length=b.toNat:=by simp;omega
       exact ih _ h1 (by simp only[Z6,List.length_cons,aq];omega)
    ·split
     ·simp
     ·split
      ·simp
      ·rename_i c hc;have ce:s.pos+1<msg.length:=(List.getElem?_eq_some_iff.1 hc).1
       split
       ·simp
       ·refine ih _ (fun k hk=>?_) h2
        rcases hn:s.nx with _|k'
        ·simp[hn]at hk;omega
        ·have:=h1 k' hn;simp[hn]at hk;omega
theorem ze2 (msg:List UInt8) (pos:Nat):(readN msg pos).2.1≤msg.length∧(readN msg pos).1.length≤255:=zDo msg _ _ (by simp) (by simp)
theorem zro (c:Chk) (msg:List UInt8) (pos:Nat) (hp:pos≤msg.length) (h:(zaa c msg pos).2=0):(zaa c msg pos).1.next≤msg.length∧(zaa c msg pos).1.text.length≤msg.length+255:=by
 have hr:=ze2 msg pos
 unfold zaa at h ⊢
 match hk:c.kind with
 |0=>
  simp only[hk]at h ⊢;split
  ·rename_i h';simp[h']at h
  ·simp;omega
 |1=>
  simp only[hk]at h ⊢;split
  ·rename_i h';simp[h']at h
  ·exact⟨hr.1,Z2 hr.2 (Nat.le_add_left _ _)⟩
 |2=>
  simp only[hk]at h ⊢;split
  ·simp;omega
  ·rename_i h';simp[h']at h
 |_+3=>simp;omega
def zfw (pcs:List Pc) (r:List Pc×Nat):List Pc×Nat:=if r.2≠0 then([],r.2)else(pcs++r.1,0)
theorem zCk (r:List Pc×Nat) (h:r.2≠0→r.1=[]):zfw [] r=r:=by
 unfold zfw;split
 ·rename_i h';rw[←h h']
 ·rename_i h';rw[List.nil_append];have:r.2=0:=by omega
  rw[←this]
theorem zz3 (cs:List Chk) (msg:List UInt8) (pos:Nat) (h:(zab cs msg pos).2≠0):(zab cs msg pos).1=[]:=by
 rcases cs with _|⟨c,cs⟩
 ·simp only[zab];split<;>rfl
 ·simp only[zab]at h ⊢;split
  ·rfl
  ·split
   ·rfl
   ·rename_i h1 h2;rw[if_neg h1,if_neg h2]at h;exact absurd rfl h
theorem zCj (pcs:List Pc) (c:Chk) (cs:List Chk) (msg:List UInt8) (pos:Nat) (h:(zaa c msg pos).2≠0):zfw pcs (zab (c::cs) msg pos)=([],(zaa c msg pos).2):=by
 simp only[zab,if_pos h,zfw]
theorem zzt (pcs:List Pc) (c:Chk) (cs:List Chk) (msg:List UInt8) (pos:Nat) (h:(zaa c msg pos).2=0):
 zfw pcs (zab (c::cs) msg pos)=zfw (pcs++[(zaa c msg pos).1]) (zab cs msg (zaa c msg pos).1.next):=by
 simp only[zab,h];rw[if_neg (by simp)]
 by_cases h2:(zab cs msg (zaa c msg pos).1.next).2=0
 ·rw[if_neg (by simp[h2])]
  unfold zfw;rw[if_neg (by simp),if_neg (by simp[h2])]
  simp
 ·rw[if_pos h2];unfold zfw;rw[if_pos h2,if_pos h2]
def Pcs (w:World) (lo:Nat) (v:Value) (l:List Pc):Prop:=∃A c,v=.slice A l.length c∧Own w lo 242 3 A l.length c (l.flatMap Pc.cells)
theorem zF1:(Tryz.prog.info? 242).map (fun i=>(i.zero,i.size,i.bytes))=some (some (.agg #[.string ⟨#[]⟩,.bool false,.int .i64 0]),3,32):=by kernel_rfl
theorem zEr {w:World} {v:Value} {l:List Chk} (h:zEa w v l) (k:Nat) (hk:k<3):
 ∃vk,(∀W,(Instr.index 305 v (.int .i64 k)).run Tryz.prog W=.ok vk W)∧ChkV w vk l[k]? :=by
 obtain⟨v0,v1,v2,rfl,_,h0,h1,h2⟩:=h
 match k,hk with
 |0,_=>exact⟨v0,fun _=>by kernel_rfl,h0⟩
 |1,_=>exact⟨v1,fun _=>by kernel_rfl,h1⟩
 |2,_=>exact⟨v2,fun _=>by kernel_rfl,h2⟩
theorem zCs (W:World):(binOp BinOp.eql 304 .nilFunc .nilFunc).run Tryz.prog W=.ok (.bool true) W:=by kernel_rfl
theorem zCr (f:Fn) (a b:Array Value) (W:World):(binOp BinOp.eql 304 (.func f a b) .nilFunc).run Tryz.prog W=.ok (.bool false) W:=by kernel_rfl
theorem zaw (w:World) (g:Nat) (hg:g=w.heap.size) (t:TypeId) (cs:List Value) (n sz:Nat) (hl:cs.length=n*sz):Rd (w.alloc (.cells cs.toArray t)) 0 sz (some ⟨g,0,none⟩) n cs:=by
 subst hg;refine⟨hl,fun _=>⟨w.heap.size,0,rfl,Nat.zero_le _,by simp,fun j u hu=>?_⟩⟩
 rw[Nat.zero_add,World.cell?_alloc_mark];simpa using hu
theorem zGf (p:Pc):∀u∈p.cells,u.oneCell'=true:=by
 intro u hu;simp[Pc.cells]at hu;rcases hu with rfl|rfl|rfl<;>rfl
theorem zEw {α:Type} {l:List α} {k:Nat} {x:α} (h:l[k]? =some x):l.drop k=x::l.drop (k+1):=by
 obtain⟨h1,h2⟩:=List.getElem?_eq_some_iff.1 h
 rw[List.drop_eq_getElem_cons h1,h2]
theorem zxb (k:Int):∀c∈checksOf k,c.n≤20:=by
 intro c hc;unfold checksOf at hc
 repeat' split at hc
 all_goals(simp at hc;first|(subst hc;simp)|(rcases hc with rfl|rfl<;>simp))
theorem zCf (msg:List UInt8) (pos:Nat) (hl:msg.length≤140737488351232) (hp:pos≤msg.length) {w:World} {v:Value} {ck:Chk} (h:ChkV w v (some ck)) (hn:ck.n≤20) (hg:Laid w):
 ∃f cap,v=.func (.func f) #[] cap∧(∀args W,(callFunc f args).run Tryz.prog W=.ok (.enter f args) W)∧Calls Tryz.prog f (#[S msg,.int .i64 pos]++cap) w fun e w'=>e=.returned (.tuple #[(zaa ck msg pos).1.val,.int .i64 (zaa ck msg pos).2])∧Ext w w':=by
 obtain⟨kd,n⟩:=ck
 match kd,h with
 |0,⟨b,e,hc⟩=>
  refine⟨_,_,e,fun args W=>by kernel_rfl,?_⟩
  by_cases hs:msg.length - pos<n
  ·have:=zs1 msg pos n b w hl hp (by dsimp only at hn;omega) hc hs
   simpa[zaa,hs]using this
  ·have:=zEq msg pos n b w hl hp (by dsimp only at hn;omega) hc hs
   simpa[zaa,hs]using this
 |1,e=>
  refine⟨_,_,e,fun args W=>by kernel_rfl,?_⟩
  by_cases hs:(readN msg pos).2.2=0
  ·have:=zzo msg pos w hg hl hp hs
   simpa[zaa,hs]using this
  ·have:=zs0 msg pos w hg hl hp hs
   simpa[zaa,hs]using this
 |2,e=>
  refine⟨_,_,e,fun args W=>by kernel_rfl,?_⟩
  have:=zzp msg pos w hl hp
  by_cases hs:zbq (msg.drop pos)=true
  ·simpa[zaa,hs]using this
  ·simpa[zaa,hs]using this
 |m+3,e=>
  refine⟨_,_,e,fun args W=>by kernel_rfl,?_⟩
  have:=zCg msg pos w hl hp
  simpa[zaa]using this
def zzd (R:List Pc×Nat) (w:World) (e:Ending) (w':World):Prop:=∃v,e=.returned (.tuple #[v,.int .i64 R.2])∧Pcs w' w.heap.size v R.1∧Ext w w'
structure SpInv (w1:World) (msg:List UInt8) (cs:List Chk) (R:List Pc×Nat) (k p:Nat) (pcs:List Pc) (A:Option Addr) (c:Nat) (wr:World):Prop where
 k3:k≤3
 pos:p≤msg.length
 len:pcs.length≤k
 own:Own wr w1.heap.size 242 3 A pcs.length c (pcs.flatMap Pc.cells)
 ext:Ext w1 wr
 eq:R=zfw pcs (zab (cs.drop k) msg p)
theorem zng (msg:List UInt8) (pos:Nat) (kind:Int) (w:World) (hg:Laid w) (hl:msg.length≤1048576) (hp:pos≤msg.length):
 Calls Tryz.prog 140 #[S msg,.int .i64 pos,.int .u16 kind] w (zzd (splitOf msg pos kind) w):=by
 have eh:msg.length≤140737488351232:=by omega
 by_cases dt:kind=41
 ·subst dt;go_enter Tryz.func140,Tryz.ntmps140
  go_wp2
  go_ret2
  exact⟨_,rfl,⟨none,0,rfl,Own.nil _ _ _ _⟩,Z5 _⟩
 have f41:(kind==41)=false:=by rw[beq_eq_false_iff_ne];exact dt
 have hR:splitOf msg pos kind=zab (checksOf kind) msg pos:=by unfold splitOf;rw[if_neg dt]
 rw[hR];clear hR dt;obtain⟨R,hR⟩:∃R,R=zab (checksOf kind) msg pos:=⟨_,rfl⟩
 rw[←hR];have HR:=Z7 hR
 clear hR;obtain⟨i0,aH,aF,aC,ax⟩:=info_parts zF1
 go_enter Tryz.func140,Tryz.ntmps140;go_wp2_with fail;refine(zty kind w).mono ?_;rintro e w1 ⟨V,rfl,hV,ae⟩;have db:=zxb kind
 generalize checksOf kind=cs at*;have dz:cs.length≤3:=by obtain⟨_,_,_,_,h,_⟩:=hV;exact h
 go_wp2_with fail
 go_loopw [1,8,17] (fun p o i wr=>∃(k pos':Nat) (pcs:List Pc) (A:Option Addr) (c:Nat),i=.int .i64 k∧p=.int .i64 pos'∧o=.slice A pcs.length c∧SpInv w1 msg cs R k pos' pcs A c wr) (fun _ _ i _=>3 - (intOf i).toNat)
 case atStart=>exact⟨0,pos,[],none,0,rfl,rfl,rfl,⟨by omega,hp,by simp,Own.nil _ _ _ _,Z5 _,by rw[HR.out,List.drop_zero,zCk _ (zz3 _ _ _)]⟩⟩
 case round=>
  obtain⟨k,pos',pcs,A,c,rfl,rfl,rfl,hI⟩:=hrel
  obtain⟨wo,rfl⟩:∃wo:World,wo=wr:=⟨_,rfl⟩
  have EL:=hI.k3
  have iV:=hI.pos
  by_cases hk:k<3
  ·obtain⟨vk,EM,ze⟩:=zEr hV k hk
   have lm:=ze.ext hI.ext
   rcases fv:cs[k]? with _|ck
   ·rw[fv]at lm;obtain rfl:vk=.nilFunc:=lm
    have hE:=Z7 (show R=zfw pcs (if pos'<msg.length then([],3)else([],0))by rw[hI.eq,List.drop_of_length_le (List.getElem?_eq_none_iff.1 fv)];rfl)
    have j7:=zCs
    clear ze fv;by_cases ab:pos'<msg.length
    ·go_wp2_with fail
     go_ret2
     refine⟨_,by rw[hE.out,if_pos ab];rfl,by rw[hE.out,if_pos ab];exact⟨none,0,rfl,Own.nil _ _ _ _⟩,ae.trans hI.ext⟩
    ·go_wp2_with fail
     go_ret2
     refine⟨_,by rw[hE.out,if_neg ab];rfl,?_,ae.trans hI.ext⟩
     rw[hE.out,if_neg ab];refine⟨A,c,?_,?_⟩
     ·simp[zfw]
     ·simpa[zfw]using hI.own.lower ae.size
   ·rw[fv]at lm;have Hd:=Z7 (zEw fv)
    have ln:=zCr
    have zf:=(hg.ext ae).ext hI.ext
    obtain⟨f,cap,rfl,EN,o9⟩:=zCf msg pos' eh iV lm (db ck (List.mem_of_getElem? fv)) zf
    have aB:=zro ck msg pos' iV
    have nd:=zCj pcs ck (cs.drop (k+1)) msg pos'
    have qh:=zzt pcs ck (cs.drop (k+1)) msg pos'
    have a6:=hI.eq
    rw[Hd.out]at a6;generalize hX:zaa ck msg pos'=X at*;have pb:=Z7 o9
    have lq:=Z7 a6
    clear o9 hX a6 ze lm fv;obtain⟨⟨pt,pn,px⟩,er⟩:=X
    dsimp only at*;have aq:=hI.len
    by_cases aJ:er=0
    ·subst aJ;have cQ:=(aB rfl).1
     have Hg:=Z7 (lq.out.trans (qh rfl))
     clear aB nd qh lq;go_wp2_with fail;refine pb.out.mono ?_;rintro e w2 ⟨rfl,ah⟩;have bI:=hI.own.ext ah
     have EO:w1.heap.size≤w2.heap.size:=(hI.ext.trans ah).size
     go_wp2_with(first
      |(at_builtin
        go_must (refine zad _ rfl (.tmp 32) (.tmp 34) _ rfl w1.heap.size 242 i0 _ 3 32 Tryz.underlying149 aH aF aC ax rfl (by omega) A pcs.length c (pcs.flatMap Pc.cells) rfl ((bI.ext ((Z5 _).alloc _)).ext ((Z5 _).alloc _)) 0 _ 1 1 (Pc.cells ⟨pt,pn,px⟩) rfl (zaw _ _ (by simp) _ _ 1 3 rfl) (zGf _) (by omega) (by omega) (by simp;omega) ?_)
        intro A3 c3 w3 eN dQ j6 _;have gQ:w3.cell? ⟨w2.heap.size,2,none⟩=some (.int .i64 px):=dQ.cell (by simp[go_sem]) (fun e=>absurd (bI.blk _ e.symm).2 (Nat.lt_irrefl _))))
     have ao:Ext w1 w3:=(((hI.ext.trans ah).alloc _).alloc _).then j6 (Z4 _)
     go_roundw
     case rel=>
      refine⟨k+1,px,pcs++[⟨pt,pn,px⟩],A3,c3,by go_num,rfl,by simp,⟨by omega,cQ,by simp;omega,?_,ao,Hg.out⟩⟩
      simpa using eN
     case measure=>simp[intOf];omega
    ·have f1:((er:Int)==0)=false:=zbm aJ
     have f2:((er:Int)!=0)=true:=by rw[bne,f1];rfl
     have Hb:=Z7 (lq.out.trans (nd aJ))
     clear aB nd qh lq;go_wp2_with fail;refine pb.out.mono ?_;rintro e w2 ⟨rfl,ah⟩;go_wp2_with fail
     go_ret2
     refine⟨_,by rw[Hb.out];rfl,by rw[Hb.out];exact⟨none,0,rfl,Own.nil _ _ _ _⟩,(ae.trans (hI.ext.trans ah)).alloc _⟩
  ·obtain rfl:k=3:=by omega
   have hE:=Z7 (show R=zfw pcs (if pos'<msg.length then([],3)else([],0))by rw[hI.eq,List.drop_of_length_le dz];rfl)
   by_cases ab:pos'<msg.length
   ·go_wp2_with fail
    go_ret2
    refine⟨_,by rw[hE.out,if_pos ab];rfl,by rw[hE.out,if_pos ab];exact⟨none,0,rfl,Own.nil _ _ _ _⟩,ae.trans hI.ext⟩
   ·go_wp2_with fail
    go_ret2
    refine⟨_,by rw[hE.out,if_neg ab];rfl,?_,ae.trans hI.ext⟩
    rw[hE.out,if_neg ab];refine⟨A,c,?_,?_⟩
    ·simp[zfw]
    ·simpa[zfw]using hI.own.lower ae.size
theorem zrr (msg:List UInt8):∀(cs:List Chk) (pos:Nat),pos≤msg.length→(zab cs msg pos).1.length≤cs.length∧∀p∈(zab cs msg pos).1,p.text.length≤msg.length+255
 |[],pos,_=>by simp only[zab];split<;>simp
 |c::cs,pos,hp=>by
  simp only[zab];split
  ·simp
  ·rename_i h1;have iD:(zaa c msg pos).2=0:=by omega
   have hb:=zro c msg pos hp iD
   have ih:=zrr msg cs _ hb.1
   split
   ·simp
   ·refine⟨by simp;exact ih.1,fun p xS=>?_⟩
    rcases List.mem_cons.1 xS with rfl|h
    ·exact hb.2
    ·exact ih.2 p h
theorem zss (k:Int):(checksOf k).length≤3:=by
 unfold checksOf
 repeat' split
 all_goals simp
theorem zgn (msg:List UInt8) (pos:Nat) (kind:Int) (hp:pos≤msg.length):(splitOf msg pos kind).1.length≤3∧∀p∈(splitOf msg pos kind).1,p.text.length≤msg.length+255:=by
 unfold splitOf;split
 ·simp
 ·have h:=zrr msg (checksOf kind) pos hp
  exact⟨Z2 h.1 (zss kind),h.2⟩
theorem zqk (l:List Pc) (n:Nat) (h:∀p∈l,p.text.length≤n):(textOf l).length≤l.length*n:=by
 induction l with
 |nil=>simp[textOf]
 |cons p l ih=>
  have h1:=h p (by simp)
  have h2:=ih (fun q hq=>h q (by simp[hq]))
  simp only[textOf,List.flatMap_cons,Z6,List.length_cons]at*;rw[Nat.add_mul];omega
theorem zvq (l:List Pc) (k:Nat) (h:k<l.length):textOf (l.take (k+1))=textOf (l.take k)++l[k].text:=by
 rw[zat l k h];unfold textOf;rw[List.flatMap_append,List.flatMap_cons,List.flatMap_nil,List.append_nil]
theorem zb7 {α β:Type} (f:α→List β) (sz:Nat) (hf:∀x,(f x).length=sz):∀(l:List α) (k j:Nat) (x:α),l[k]? =some x→j<sz→(l.flatMap f)[k*sz+j]? =(f x)[j]?
 |[],k,j,x,h,_=>by simp at h
 |a::l,0,j,x,h,hj=>by
  simp at h;subst h;rw[List.flatMap_cons,Nat.zero_mul,Nat.zero_add,List.getElem?_append_left (by rw[hf];exact hj)]
 |a::l,k+1,j,x,h,hj=>by
  simp only[List.getElem?_cons_succ]at h;rw[List.flatMap_cons,List.getElem?_append_right (by rw[hf,Nat.add_mul];omega),hf]
  rw[←zb7 f sz hf l k j x h hj];congr 1;rw[Nat.add_mul];omega
theorem zhi {w:World} {lo b off:Nat} {l:List Pc} {n:Nat} (hc:∀j u,(l.flatMap Pc.cells)[j]? =some u→w.cell? ⟨b,off+j,none⟩=some u) (k:Nat) (p:Pc) (hp:l[k]? =some p):
 w.cell? ⟨b,off+k*3,none⟩=some (S p.text)∧w.cell? ⟨b,off+k*3+1,none⟩=some (.bool p.nm)∧w.cell? ⟨b,off+k*3+2,none⟩=some (.int .i64 p.next):=by
 refine⟨?_,?_,?_⟩
 ·exact hc (k*3+0) _ (zb7 Pc.cells 3 (fun _=>rfl) l k 0 p hp (by omega))
 ·rw[Nat.add_assoc];exact hc (k*3+1) _ (zb7 Pc.cells 3 (fun _=>rfl) l k 1 p hp (by omega))
 ·rw[Nat.add_assoc];exact hc (k*3+2) _ (zb7 Pc.cells 3 (fun _=>rfl) l k 2 p hp (by omega))
theorem zkt (lo:Nat) (v:Value) (l:List Pc) (w:World) (h:Pcs w lo v l) (hl:l.length≤3) (hb:∀p∈l,p.text.length≤2097152):
 Calls Tryz.prog 141 #[v] w fun e w'=>e=.returned (S (textOf l))∧Ext w w':=by
 obtain⟨A,c,rfl,ag⟩:=h
 have ay:=ag.rd
 clear ag;by_cases h1:l.length=1
 ·obtain⟨p,rfl⟩:=List.length_eq_one_iff.1 h1
  obtain⟨b,off,rfl,_,_,hc⟩:=ay.2 (by simp)
  obtain⟨h0,_⟩:=zhi (lo:=0) (n:=0) hc 0 p rfl
  have e1:textOf [p]=p.text:=by simp[textOf]
  rw[e1];simp only[Nat.zero_mul,Nat.add_zero]at h0;clear e1 hc ay hb hl h1;go_enter Tryz.func141,Tryz.ntmps141
  go_wp2
  go_ret;exact⟨rfl,Z5 _⟩
 ·have f1:((l.length:Int)==1)=false:=by rw[beq_eq_false_iff_ne];omega
  obtain⟨i0,aH,aF,aC,ax⟩:=info_parts zfa
  go_enter Tryz.func141,Tryz.ntmps141
  go_wp2
  go_loopw [3,15] (fun o i wr=>∃(k:Nat) (B:Option Addr) (d:Nat),k≤l.length∧i=.int .i64 k∧o=.slice B (textOf (l.take k)).length d∧Own wr w.heap.size 5 1 B (textOf (l.take k)).length d ((textOf (l.take k)).map U8)∧Ext w wr) (fun _ i _=>l.length - (intOf i).toNat)
  case atStart=>exact⟨0,none,0,by omega,rfl,rfl,Own.nil _ _ _ _,Z5 _⟩
  case round=>
   obtain⟨k,B,d,hk,rfl,rfl,ag,hE⟩:=hrel
   obtain⟨wo,rfl⟩:∃wo:World,wo=wr:=⟨_,rfl⟩
   by_cases ab:k<l.length
   ·have hp:l[k]? =some l[k]:=Z3 ab
    have bi:l[k].text.length≤2097152:=hb _ (List.getElem_mem ab)
    have gE:textOf (l.take (k+1))=textOf (l.take k)++l[k].text:=zvq l k ab
    have lk:=zqk (l.take k) 2097152 (fun p hp=>hb p (List.mem_of_mem_take hp))
    have cv:(l.take k).length≤3:=Z2 (List.length_take_le _ _) (by omega)
    have nh:(textOf (l.take k)).length≤6291456:=Z2 lk (Nat.mul_le_mul_right 2097152 cv)
    generalize l[k]=p at*;have gR:=Z7 gE
    generalize textOf (l.take k)=T at*;obtain⟨b,off,rfl,_,az,hc⟩:=ay.2 (by omega)
    obtain⟨h0,iD,h2⟩:=zhi (lo:=0) (n:=0) hc k p hp
    rw[←hE.cell (p:=⟨b,_,none⟩) az]at h0 iD h2
    have aU:b<wo.heap.size:=Z1 az hE.size
    clear gE lk cv hc hp ay hb;go_wp2_with(
     refine zbh _ rfl (.tmp 19) (.tmp 21) _ _ rfl w.heap.size 5 i0 Tryz.underlying110 Tryz.underlying9 aH aF aC ax B T.length d (T.map U8) rfl (ag.ext ((Z5 _).alloc _)) p.text rfl (by omega) (by have:=hE.size;simp;omega) ?_
     intro A5 c5 w5 ai bq aG)
    go_roundw
    case rel=>
     refine⟨k+1,A5,c5,by omega,by go_num,by rw[gR.out,Z6],?_,(hE.alloc _).then aG (Z4 _)⟩
     rw[gR.out,Z6,List.map_append];exact ai
    case measure=>simp[intOf];omega
   ·have e1:l.take k=l:=List.take_of_length_le (by omega)
    rw[e1]at ag ⊢;clear e1;have gD:=zeb d ag.rd
    go_wp2
    go_ret;exact⟨rfl,hE⟩
def zh9 (kind:Int) (data:List UInt8) (w:World) (e:Ending) (w':World):Prop:=∃v,e=.returned (.tuple #[v,.bool (zbk kind data).isSome])∧Pcs w' w.heap.size v (partsOf kind data)∧Ext w w'
theorem zBz {kind:Int} {data:List UInt8} (h:¬((splitOf data 0 kind).2=0∧textOf (splitOf data 0 kind).1=data)):zbk kind data=none:=by unfold zbk;rw[if_neg h]
theorem zz7 {kind:Int} {data:List UInt8} (h:(splitOf data 0 kind).2=0∧textOf (splitOf data 0 kind).1=data):zbk kind data=some (splitOf data 0 kind).1:=by unfold zbk;rw[if_pos h]
theorem ziu {a b:List UInt8} (h:a≠b):(a==b)=false:=by rw[beq_eq_false_iff_ne];exact h
theorem zh1 (kind:Int) (data:List UInt8) (w:World) (hg:Laid w) (hl:data.length≤1048576):
 Calls Tryz.prog 79 #[.int .u16 kind,S data] w (zh9 kind data w):=by
 have Hs:=Z7 (zng data 0 kind w hg hl (Nat.zero_le _))
 have aB:=zgn data 0 kind (Nat.zero_le _)
 have eP:=Z7 (@zBz kind data)
 have dF:=Z7 (@zz7 kind data)
 generalize splitOf data 0 kind=R at*;obtain⟨l,er⟩:=R
 dsimp only at*;by_cases aJ:er=0
 ·subst aJ;by_cases ht:textOf l=data
  ·have hw:=dF.out ⟨rfl,ht⟩
   have Hw:=Z7 hw
   clear hw eP dF;have Ht:=Z7 ht
   clear ht;go_enter Tryz.func79,Tryz.ntmps79;go_wp2_with fail;refine Hs.out.mono ?_;rintro e w1 ⟨v,rfl,hP,ae⟩;go_wp2_with fail;refine(zkt _ v l w1 hP aB.1 (fun p hp=>by have:=aB.2 p hp;omega)).mono ?_;rintro e w2 ⟨rfl,ah⟩
   rw[Ht.out];go_wp2_with fail
   go_ret2
   obtain⟨A,c,rfl,ag⟩:=hP
   refine⟨_,by rw[Hw.out];rfl,?_,ae.trans ah⟩
   unfold partsOf;rw[Hw.out];exact⟨A,c,rfl,ag.ext ah⟩
  ·have hw:=eP.out (fun h=>ht h.2)
   have Hw:=Z7 hw
   have f1:=ziu ht
   clear hw eP dF ht;go_enter Tryz.func79,Tryz.ntmps79;go_wp2_with fail;refine Hs.out.mono ?_;rintro e w1 ⟨v,rfl,hP,ae⟩;go_wp2_with fail;refine(zkt _ v l w1 hP aB.1 (fun p hp=>by have:=aB.2 p hp;omega)).mono ?_;rintro e w2 ⟨rfl,ah⟩
   go_wp2_with fail
   go_ret2
   refine⟨_,by rw[Hw.out];rfl,?_,ae.trans ah⟩
   unfold partsOf;rw[Hw.out];exact⟨none,0,rfl,Own.nil _ _ _ _⟩
 ·have hw:=eP.out (fun h=>aJ h.1)
  have Hw:=Z7 hw
  have f1:((er:Int)==0)=false:=zbm aJ
  have f2:((er:Int)!=0)=true:=by rw[bne,f1];rfl
  clear hw eP dF aJ;go_enter Tryz.func79,Tryz.ntmps79;go_wp2_with fail;refine Hs.out.mono ?_;rintro e w1 ⟨v,rfl,hP,ae⟩;go_wp2_with fail
  go_ret2
  refine⟨_,by rw[Hw.out];rfl,?_,ae⟩
  unfold partsOf;rw[Hw.out];exact⟨none,0,rfl,Own.nil _ _ _ _⟩
theorem zed:(Tryz.prog.info? 9).map (fun i=>(i.zero,i.size,i.bytes))=some (some (.string ⟨#[]⟩),1,16):=by kernel_rfl
theorem zdg (l:List (List UInt8)):∀u∈l.map S,u.oneCell'=true:=by
 intro u hu;obtain⟨b,_,rfl⟩:=List.mem_map.1 hu
 rfl
def OStrs (w:World) (lo:Nat) (v:Value) (l:List (List UInt8)):Prop:=∃A c,v=.slice A l.length c∧Own w lo 9 1 A l.length c (l.map S)
theorem OStrs.strs {w:World} {lo:Nat} {v:Value} {l:List (List UInt8)} (h:OStrs w lo v l):Strs w lo v l:=by
 obtain⟨A,c,e,h⟩:=h
 exact⟨A,c,e,h.cap.1,h.cap.2,h.rd⟩
theorem OStrs.ext {w w':World} {lo:Nat} {v:Value} {l:List (List UInt8)} (h:OStrs w lo v l) (hE:Ext w w'):OStrs w' lo v l:=by
 obtain⟨A,c,e,h⟩:=h
 exact⟨A,c,e,h.ext hE⟩
theorem OStrs.lower {w:World} {lo lo':Nat} {v:Value} {l:List (List UInt8)} (h:OStrs w lo v l) (hl:lo'≤lo):OStrs w lo' v l:=by
 obtain⟨A,c,e,h⟩:=h
 exact⟨A,c,e,h.lower hl⟩
def zza (l:List (List UInt8)) (w:World) (e:Ending) (w':World):Prop:=∃v,e=.returned v∧OStrs w' w.heap.size v l∧Ext w w'
def namesTo (l:List Pc) (k:Nat):List (List UInt8):=((l.take k).filter Pc.nm).map Pc.text
theorem zv7 (l:List Pc) (k:Nat) (h:k<l.length) (p:Pc) (hp:l[k]=p) (hn:p.nm=true):namesTo l (k+1)=namesTo l k++[p.text]:=by
 unfold namesTo;rw[zat l k h,List.filter_append,hp];simp[hn]
theorem zy3 (l:List Pc) (k:Nat) (h:k<l.length) (p:Pc) (hp:l[k]=p) (hn:p.nm=false):namesTo l (k+1)=namesTo l k:=by
 unfold namesTo;rw[zat l k h,List.filter_append,hp];simp[hn]
theorem zv6 (l:List Pc) (k:Nat):(namesTo l k).length≤l.length:=by
 unfold namesTo;rw[List.length_map];exact Z2 (List.length_filter_le _ _) (by simp;omega)
theorem zhw (kind:Int) (data:List UInt8):(partsOf kind data).length≤3∧∀p∈partsOf kind data,p.text.length≤data.length+255:=by
 have h:=zgn data 0 kind (Nat.zero_le _)
 unfold partsOf zbk;split
 ·exact h
 ·simp
theorem zv9 (kind:Int) (data:List UInt8) (w:World) (hg:Laid w) (hl:data.length≤1048576):
 Calls Tryz.prog 211 #[.int .u16 kind,S data] w (zza (rnames kind data) w):=by
 have Hs:=Z7 (zh1 kind data w hg hl)
 have aB:=zhw kind data
 have hR:rnames kind data=namesTo (partsOf kind data) (partsOf kind data).length:=by unfold rnames namesTo;rw[List.take_length]
 rw[hR];clear hR;unfold zh9 at Hs;generalize (zbk kind data).isSome=ok at*;generalize partsOf kind data=l at*;obtain⟨i0,aH,aF,aC,ax⟩:=info_parts zed
 go_enter Tryz.func211,Tryz.ntmps211;go_wp2_with fail;refine Hs.out.mono ?_;rintro e w1 ⟨v,rfl,⟨A,c,rfl,ag⟩,ae⟩;have ay:=ag.rd
 have qi:=aB.1
 clear ag aB Hs;go_wp2_with fail
 go_loopw [7,18] (fun o i wr=>∃(k:Nat) (B:Option Addr) (d:Nat),k≤l.length∧i=.int .i64 k∧o=.slice B (namesTo l k).length d∧Own wr w1.heap.size 9 1 B (namesTo l k).length d ((namesTo l k).map S)∧Ext w1 wr) (fun _ i _=>l.length - (intOf i).toNat)
 case atStart=>exact⟨0,none,0,by omega,rfl,rfl,Own.nil _ _ _ _,Z5 _⟩
 case round=>
  obtain⟨k,B,d,hk,rfl,rfl,ag,hE⟩:=hrel
  obtain⟨wo,rfl⟩:∃wo:World,wo=wr:=⟨_,rfl⟩
  by_cases ab:k<l.length
  ·have hp:l[k]? =some l[k]:=Z3 ab
   have hy:=zv7 l k ab
   have hn:=zy3 l k ab
   have cv:=zv6 l k
   generalize l[k]=p at*;generalize namesTo l k=T at*;obtain⟨b,off,rfl,_,az,hc⟩:=ay.2 (by omega)
   obtain⟨h0,iD,h2⟩:=zhi (lo:=0) (n:=0) hc k p hp
   rw[←hE.cell (p:=⟨b,_,none⟩) az]at h0 iD h2
   have aU:b<wo.heap.size:=Z1 az hE.size
   have Hy:=Z7 (hy p rfl)
   have Hn:=Z7 (hn p rfl)
   clear hc hp ay hy hn;obtain⟨pt,pn,px⟩:=p
   dsimp only at*;rcases pn with _|_
   ·go_wp2_with fail;go_roundw
    case rel=>
     refine⟨k+1,B,d,by omega,by go_num,by rw[Hn.out rfl],?_,hE.alloc _⟩
     rw[Hn.out rfl];exact ag.ext ((Z5 _).alloc _)
    case measure=>simp[intOf];omega
   ·go_wp2_with(
     at_builtin
     refine zad _ rfl (.tmp 24) (.tmp 27) _ rfl w1.heap.size 9 i0 _ 1 16 Tryz.underlying77 aH aF aC ax rfl (by omega) B T.length d (T.map S) rfl ((ag.ext ((Z5 _).alloc _)).ext ((Z5 _).alloc _)) 0 _ 1 1 ([pt].map S) rfl (zaw _ _ (by simp) _ _ 1 1 rfl) (zdg _) (by omega) (by omega) (by have:=hE.size;simp;omega) ?_
     intro A5 c5 w5 ai bq aG _)
    go_roundw
    case rel=>
     refine⟨k+1,A5,c5,by omega,by go_num,by rw[Hy.out rfl,Z6];rfl,?_,((hE.alloc _).alloc _).then aG (Z4 _)⟩
     rw[Hy.out rfl,Z6,List.map_append];exact ai
    case measure=>simp[intOf];omega
  ·have e1:k=l.length:=by omega
   subst e1;go_wp2_with fail;go_ret;exact⟨_,rfl,⟨B,d,rfl,ag.lower ae.size⟩,ae.trans hE⟩
end Go.Proofs.YtdnpmapelmjfpaaGreatDoor
