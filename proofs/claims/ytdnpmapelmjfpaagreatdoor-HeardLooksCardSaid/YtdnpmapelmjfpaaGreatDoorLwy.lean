/- Lemmas of this claim. No condition. -/
import Derived.Test.YtdnpmapelmjfpaaGreatDoorLwx
import Derived.Laws.BitsAllLaws
import Derived.Defers
import Derived.Recover
set_option maxHeartbeats 4000000
set_option linter.unusedVariables false
set_option linter.unusedSimpArgs false
set_option maxRecDepth 100000
namespace Go.Proofs.YtdnpmapelmjfpaaGreatDoor
open Go.RowKit
theorem zGc (a b e:Nat) (hb:b<2^e):(2^(e+1)*a+b)|||2^e=2^(e+1)*a+b+2^e:=by
 have hp:2^(e+1)=2*2^e:=by rw[Nat.pow_succ,Nat.mul_comm]
 have h1:=Nat.two_pow_add_eq_or_of_lt (i:=e+1) (b:=b) (by omega) a
 have h2:=Nat.two_pow_add_eq_or_of_lt (i:=e) (b:=b) hb 1
 have h3:=Nat.two_pow_add_eq_or_of_lt (i:=e+1) (b:=2^e*1+b) (by omega) a
 rw[Nat.mul_one]at h2 h3;rw[h1,Nat.or_assoc,Nat.or_comm b,←h2,←h3];omega
theorem zGa {x e:Nat} (h:x%2^(e+1)<2^e):x|||2^e=x+2^e:=by
 have h1:=zGc (x/2^(e+1)) (x%2^(e+1)) e h
 rw[Nat.div_add_mod]at h1;exact h1
theorem zg5 {x e:Nat} (hx:x<65536) (he:e<16) (h:x%2^(e+1)<2^e):bits .or .u16 (x:Int) ((2^e:Nat):Int)=((x+2^e:Nat):Int):=by
 have:2^e<65536:=Z1 (Nat.pow_lt_pow_right (by omega) he) (by decide)
 rw[u16_or_nat x (2^e) hx this,zGa h]
def BitsAt (w:World):Prop:=w.cell? ⟨2,0,none⟩=some (.int .u16 32768)∧w.cell? ⟨2,1,none⟩=some (.int .u16 1024)∧w.cell? ⟨2,2,none⟩=some (.int .u16 512)∧w.cell? ⟨2,3,none⟩=some (.int .u16 256)∧
 w.cell? ⟨2,4,none⟩=some (.int .u16 128)∧w.cell? ⟨2,5,none⟩=some (.int .u16 64)∧w.cell? ⟨2,6,none⟩=some (.int .u16 32)∧w.cell? ⟨2,7,none⟩=some (.int .u16 16)
theorem BitsAt.ext {w w':World} (h:BitsAt w) (hE:Ext w w'):BitsAt w':=by
 obtain⟨a,b,c,d,e,f,g,i⟩:=h
 exact⟨(hE.cell (ze7 a).2).trans a,(hE.cell (ze7 b).2).trans b,(hE.cell (ze7 c).2).trans c,(hE.cell (ze7 d).2).trans d,(hE.cell (ze7 e).2).trans e,(hE.cell (ze7 f).2).trans f,(hE.cell (ze7 g).2).trans g,(hE.cell (ze7 i).2).trans i⟩
abbrev hdV (h:HdD):Value:=.agg #[.int .u16 h.id,.bool h.qr,.int .u8 h.op,.bool h.aa,.bool h.tc,.bool h.rd,.bool h.ra,.bool h.z,.bool h.ad,.bool h.cd,.int .u8 h.code]
abbrev mrw (m:MsgD) (q a u x o:Value):Array Value:=#[.int .u16 m.hd.id,.bool m.hd.qr,.int .u8 m.hd.op,.bool m.hd.aa,.bool m.hd.tc,.bool m.hd.rd,.bool m.hd.ra,.bool m.hd.z,.bool m.hd.ad,.bool m.hd.cd,.int .u8 m.hd.code,q,a,u,x,.bool m.he,.int .u16 m.ed.size,.int .u8 m.ed.ext,.int .u8 m.ed.ver,.int .u16 m.ed.flags,o]
def flT (h:HdD) (o c:Nat):Nat→Nat
 |0=>o*2048+c
 |1=>o*2048+c+zae h.qr 32768
 |2=>o*2048+c+zae h.qr 32768+zae h.aa 1024
 |3=>o*2048+c+zae h.qr 32768+zae h.aa 1024+zae h.tc 512
 |4=>o*2048+c+zae h.qr 32768+zae h.aa 1024+zae h.tc 512+zae h.rd 256
 |5=>o*2048+c+zae h.qr 32768+zae h.aa 1024+zae h.tc 512+zae h.rd 256+zae h.ra 128
 |6=>o*2048+c+zae h.qr 32768+zae h.aa 1024+zae h.tc 512+zae h.rd 256+zae h.ra 128+zae h.z 64
 |7=>o*2048+c+zae h.qr 32768+zae h.aa 1024+zae h.tc 512+zae h.rd 256+zae h.ra 128+zae h.z 64+zae h.ad 32
 |_=>o*2048+c+zae h.qr 32768+zae h.aa 1024+zae h.tc 512+zae h.rd 256+zae h.ra 128+zae h.z 64+zae h.ad 32+zae h.cd 16
theorem zoy (h:HdD) (w:World) (hb:BitsAt w) (ho:0≤h.op) (hc:0≤h.code):
 Calls Tryz.prog 68 #[hdV h] w fun e w'=>(if zdy h=true then e=.returned (.tuple #[.int .u16 (zcf h:Nat),.int .i64 0])else e=.returned (.tuple #[.int .u16 0,.int .i64 1]))∧Ext w w':=by
 obtain⟨id,qr,op,aa,tc,rd,ra,z,ad,cd,code⟩:=h
 dsimp only at ho hc;obtain⟨o,rfl⟩:=Int.eq_ofNat_of_zero_le ho
 obtain⟨c,rfl⟩:=Int.eq_ofNat_of_zero_le hc
 by_cases bB:o≤15∧c≤15
 ·have hk:zdy ⟨id,qr,o,aa,tc,rd,ra,z,ad,cd,c⟩=true:=by unfold zdy;rw[decide_eq_true_eq];dsimp only;omega
  rw[hk];obtain⟨h1,h2⟩:=bB
  have yh:¬((15:Int)<(o:Int)):=by omega
  have zZ:¬((15:Int)<(c:Int)):=by omega
  obtain⟨v0,l0,e0,d0⟩:=zc0 qr 32768
  obtain⟨v1,l1,e1,d1⟩:=zc0 aa 1024
  obtain⟨v2,l2,e2,d2⟩:=zc0 tc 512
  obtain⟨v3,l3,e3,d3⟩:=zc0 rd 256
  obtain⟨v4,l4,e4,d4⟩:=zc0 ra 128
  obtain⟨v5,l5,e5,d5⟩:=zc0 z 64
  obtain⟨v6,l6,e6,d6⟩:=zc0 ad 32
  obtain⟨v7,l7,e7,d7⟩:=zc0 cd 16
  have z5:=Z7 (show bits .or .u16 ((flT ⟨id,qr,o,aa,tc,rd,ra,z,ad,cd,c⟩ o c 0:Nat):Int) 32768=((flT ⟨id,qr,o,aa,tc,rd,ra,z,ad,cd,c⟩ o c 0+32768:Nat):Int)from
   zg5 (x:=flT ⟨id,qr,o,aa,tc,rd,ra,z,ad,cd,c⟩ o c 0) (e:=15) (by simp only[flT,e0,e1,e2,e3,e4,e5,e6];omega) (by omega) (by simp only[flT,e0,e1,e2,e3,e4,e5,e6];omega))
  have z6:=Z7 (show bits .or .u16 ((flT ⟨id,qr,o,aa,tc,rd,ra,z,ad,cd,c⟩ o c 1:Nat):Int) 1024=((flT ⟨id,qr,o,aa,tc,rd,ra,z,ad,cd,c⟩ o c 1+1024:Nat):Int)from
   zg5 (x:=flT ⟨id,qr,o,aa,tc,rd,ra,z,ad,cd,c⟩ o c 1) (e:=10) (by simp only[flT,e0,e1,e2,e3,e4,e5,e6];omega) (by omega) (by simp only[flT,e0,e1,e2,e3,e4,e5,e6];omega))
  have ZY:=Z7 (show bits .or .u16 ((flT ⟨id,qr,o,aa,tc,rd,ra,z,ad,cd,c⟩ o c 2:Nat):Int) 512=((flT ⟨id,qr,o,aa,tc,rd,ra,z,ad,cd,c⟩ o c 2+512:Nat):Int)from
   zg5 (x:=flT ⟨id,qr,o,aa,tc,rd,ra,z,ad,cd,c⟩ o c 2) (e:=9) (by simp only[flT,e0,e1,e2,e3,e4,e5,e6];omega) (by omega) (by simp only[flT,e0,e1,e2,e3,e4,e5,e6];omega))
  have Fy:=Z7 (show bits .or .u16 ((flT ⟨id,qr,o,aa,tc,rd,ra,z,ad,cd,c⟩ o c 3:Nat):Int) 256=((flT ⟨id,qr,o,aa,tc,rd,ra,z,ad,cd,c⟩ o c 3+256:Nat):Int)from
   zg5 (x:=flT ⟨id,qr,o,aa,tc,rd,ra,z,ad,cd,c⟩ o c 3) (e:=8) (by simp only[flT,e0,e1,e2,e3,e4,e5,e6];omega) (by omega) (by simp only[flT,e0,e1,e2,e3,e4,e5,e6];omega))
  have z7:=Z7 (show bits .or .u16 ((flT ⟨id,qr,o,aa,tc,rd,ra,z,ad,cd,c⟩ o c 4:Nat):Int) 128=((flT ⟨id,qr,o,aa,tc,rd,ra,z,ad,cd,c⟩ o c 4+128:Nat):Int)from
   zg5 (x:=flT ⟨id,qr,o,aa,tc,rd,ra,z,ad,cd,c⟩ o c 4) (e:=7) (by simp only[flT,e0,e1,e2,e3,e4,e5,e6];omega) (by omega) (by simp only[flT,e0,e1,e2,e3,e4,e5,e6];omega))
  have Fz:=Z7 (show bits .or .u16 ((flT ⟨id,qr,o,aa,tc,rd,ra,z,ad,cd,c⟩ o c 5:Nat):Int) 64=((flT ⟨id,qr,o,aa,tc,rd,ra,z,ad,cd,c⟩ o c 5+64:Nat):Int)from
   zg5 (x:=flT ⟨id,qr,o,aa,tc,rd,ra,z,ad,cd,c⟩ o c 5) (e:=6) (by simp only[flT,e0,e1,e2,e3,e4,e5,e6];omega) (by omega) (by simp only[flT,e0,e1,e2,e3,e4,e5,e6];omega))
  have FA:=Z7 (show bits .or .u16 ((flT ⟨id,qr,o,aa,tc,rd,ra,z,ad,cd,c⟩ o c 6:Nat):Int) 32=((flT ⟨id,qr,o,aa,tc,rd,ra,z,ad,cd,c⟩ o c 6+32:Nat):Int)from
   zg5 (x:=flT ⟨id,qr,o,aa,tc,rd,ra,z,ad,cd,c⟩ o c 6) (e:=5) (by simp only[flT,e0,e1,e2,e3,e4,e5,e6];omega) (by omega) (by simp only[flT,e0,e1,e2,e3,e4,e5,e6];omega))
  have FB:=Z7 (show bits .or .u16 ((flT ⟨id,qr,o,aa,tc,rd,ra,z,ad,cd,c⟩ o c 7:Nat):Int) 16=((flT ⟨id,qr,o,aa,tc,rd,ra,z,ad,cd,c⟩ o c 7+16:Nat):Int)from
   zg5 (x:=flT ⟨id,qr,o,aa,tc,rd,ra,z,ad,cd,c⟩ o c 7) (e:=4) (by simp only[flT,e0,e1,e2,e3,e4,e5,e6];omega) (by omega) (by simp only[flT,e0,e1,e2,e3,e4,e5,e6];omega))
  have z8:=Z7 (show flT ⟨id,qr,o,aa,tc,rd,ra,z,ad,cd,c⟩ o c 8=zcf ⟨id,qr,o,aa,tc,rd,ra,z,ad,cd,c⟩by simp only[flT,zcf,Int.toNat_natCast];omega)
  have z9:bits .or .u16 ((o:Int)*2048) (c:Int)=((flT ⟨id,qr,o,aa,tc,rd,ra,z,ad,cd,c⟩ o c 0:Nat):Int):=by
   have h3:=u16_or_nat (o*2048) c (by omega) (by omega)
   have h4:=Nat.two_pow_add_eq_or_of_lt (i:=11) (b:=c) (by omega) o
   rw[Int.natCast_mul]at h3;have h5:(o*2048|||c)=o*2048+c:=by rw[Nat.mul_comm];exact h4.symm
   rw[h5]at h3;exact h3
  clear l0 e0 d0 l1 e1 d1 l2 e2 d2 l3 e3 d3 l4 e4 d4 l5 e5 d5 l6 e6 d6 l7 e7 d7 v0 v1 v2 v3 v4 v5 v6 v7;obtain⟨W,hW⟩:∃W,W=(w.alloc (.cells #[.int .u16 id,.bool qr,.int .u8 (o:Int),.bool aa,.bool tc,.bool rd,.bool ra,.bool z,.bool ad,.bool cd,.int .u8 (c:Int)] 30)).alloc (.cells #[.bool qr,.bool aa,.bool tc,.bool rd,.bool ra,.bool z,.bool ad,.bool cd] 222):=⟨_,rfl⟩
  have dC:Ext w W:=by rw[hW];exact((Z5 _).alloc _).alloc _
  have a5:W.heap[w.heap.size+1]? =some (.cells #[.bool qr,.bool aa,.bool tc,.bool rd,.bool ra,.bool z,.bool ad,.bool cd] 222):=by rw[hW];exact heap_alloc2_new w _ _
  go_enter Tryz.func68,Tryz.ntmps68;go_upto_region 5 with fail
  rw[←hW];clear hW;obtain⟨b0,b1,b2,b3,b4,b5,b6,b7⟩:=hb.ext dC
  have k0:W.cell? ⟨w.heap.size+1,0,none⟩=some (.bool qr):=cell_of_row W _ 0 _ _ _ a5
  have k1:W.cell? ⟨w.heap.size+1,1,none⟩=some (.bool aa):=cell_of_row W _ 1 _ _ _ a5
  have k2:W.cell? ⟨w.heap.size+1,2,none⟩=some (.bool tc):=cell_of_row W _ 2 _ _ _ a5
  have k3:W.cell? ⟨w.heap.size+1,3,none⟩=some (.bool rd):=cell_of_row W _ 3 _ _ _ a5
  have k4:W.cell? ⟨w.heap.size+1,4,none⟩=some (.bool ra):=cell_of_row W _ 4 _ _ _ a5
  have k5:W.cell? ⟨w.heap.size+1,5,none⟩=some (.bool z):=cell_of_row W _ 5 _ _ _ a5
  have k6:W.cell? ⟨w.heap.size+1,6,none⟩=some (.bool ad):=cell_of_row W _ 6 _ _ _ a5
  have k7:W.cell? ⟨w.heap.size+1,7,none⟩=some (.bool cd):=cell_of_row W _ 7 _ _ _ a5
  clear a5 yh zZ;go_wp2_with fail
  go_loopw [4,6,7,42] (fun s4 _ _ s42 wr=>∃k:Nat,k≤8∧s42=.int .i64 k∧s4=.int .u16 (flT ⟨id,qr,o,aa,tc,rd,ra,z,ad,cd,c⟩ o c k:Nat)∧W=wr) (fun _ _ _ s42 _=>8 - (intOf s42).toNat)
  case atStart=>exact⟨0,by omega,rfl,rfl,rfl⟩
  case round=>
   obtain⟨k,hk,rfl,rfl,rfl⟩:=hrel
   clear z9;rcases Nat.lt_or_ge k 8 with hk8|hk8
   ·rcases(by omega:k=0∨k=1∨k=2∨k=3∨k=4∨k=5∨k=6∨k=7)with rfl|rfl|rfl|rfl|rfl|rfl|rfl|rfl
    ·have jJ:=z5.out
     have hc:((0:Nat):Int)=0:=rfl
     have dY:∀V:World,(Instr.index 223 (.agg #[.int .u16 32768,.int .u16 1024,.int .u16 512,.int .u16 256,.int .u16 128,.int .u16 64,.int .u16 32,.int .u16 16]) (.int .i64 0)).run Tryz.prog V=.ok (.int .u16 32768) V:=fun _=>by kernel_rfl
     rcases qr with _|_
     all_goals
      go_wp2_with fail;go_roundw
      case rel=>exact⟨1,by omega,by go_num,rfl,(by first|rfl|trivial)⟩
      case measure=>simp[intOf]
    ·have jJ:=z6.out
     have hc:((1:Nat):Int)=1:=rfl
     have dY:∀V:World,(Instr.index 223 (.agg #[.int .u16 32768,.int .u16 1024,.int .u16 512,.int .u16 256,.int .u16 128,.int .u16 64,.int .u16 32,.int .u16 16]) (.int .i64 1)).run Tryz.prog V=.ok (.int .u16 1024) V:=fun _=>by kernel_rfl
     rcases aa with _|_
     all_goals
      go_wp2_with fail;go_roundw
      case rel=>exact⟨2,by omega,by go_num,rfl,(by first|rfl|trivial)⟩
      case measure=>simp[intOf]
    ·have jJ:=ZY.out
     have hc:((2:Nat):Int)=2:=rfl
     have dY:∀V:World,(Instr.index 223 (.agg #[.int .u16 32768,.int .u16 1024,.int .u16 512,.int .u16 256,.int .u16 128,.int .u16 64,.int .u16 32,.int .u16 16]) (.int .i64 2)).run Tryz.prog V=.ok (.int .u16 512) V:=fun _=>by kernel_rfl
     rcases tc with _|_
     all_goals
      go_wp2_with fail;go_roundw
      case rel=>exact⟨3,by omega,by go_num,rfl,(by first|rfl|trivial)⟩
      case measure=>simp[intOf]
    ·have jJ:=Fy.out
     have hc:((3:Nat):Int)=3:=rfl
     have dY:∀V:World,(Instr.index 223 (.agg #[.int .u16 32768,.int .u16 1024,.int .u16 512,.int .u16 256,.int .u16 128,.int .u16 64,.int .u16 32,.int .u16 16]) (.int .i64 3)).run Tryz.prog V=.ok (.int .u16 256) V:=fun _=>by kernel_rfl
     rcases rd with _|_
     all_goals
      go_wp2_with fail;go_roundw
      case rel=>exact⟨4,by omega,by go_num,rfl,(by first|rfl|trivial)⟩
      case measure=>simp[intOf]
    ·have jJ:=z7.out
     have hc:((4:Nat):Int)=4:=rfl
     have dY:∀V:World,(Instr.index 223 (.agg #[.int .u16 32768,.int .u16 1024,.int .u16 512,.int .u16 256,.int .u16 128,.int .u16 64,.int .u16 32,.int .u16 16]) (.int .i64 4)).run Tryz.prog V=.ok (.int .u16 128) V:=fun _=>by kernel_rfl
     rcases ra with _|_
     all_goals
      go_wp2_with fail;go_roundw
      case rel=>exact⟨5,by omega,by go_num,rfl,(by first|rfl|trivial)⟩
      case measure=>simp[intOf]
    ·have jJ:=Fz.out
     have hc:((5:Nat):Int)=5:=rfl
     have dY:∀V:World,(Instr.index 223 (.agg #[.int .u16 32768,.int .u16 1024,.int .u16 512,.int .u16 256,.int .u16 128,.int .u16 64,.int .u16 32,.int .u16 16]) (.int .i64 5)).run Tryz.prog V=.ok (.int .u16 64) V:=fun _=>by kernel_rfl
     rcases z with _|_
     all_goals
      go_wp2_with fail;go_roundw
      case rel=>exact⟨6,by omega,by go_num,rfl,(by first|rfl|trivial)⟩
      case measure=>simp[intOf]
    ·have jJ:=FA.out
     have hc:((6:Nat):Int)=6:=rfl
     have dY:∀V:World,(Instr.index 223 (.agg #[.int .u16 32768,.int .u16 1024,.int .u16 512,.int .u16 256,.int .u16 128,.int .u16 64,.int .u16 32,.int .u16 16]) (.int .i64 6)).run Tryz.prog V=.ok (.int .u16 32) V:=fun _=>by kernel_rfl
     rcases ad with _|_
     all_goals
      go_wp2_with fail;go_roundw
      case rel=>exact⟨7,by omega,by go_num,rfl,(by first|rfl|trivial)⟩
      case measure=>simp[intOf]
    ·have jJ:=FB.out
     have hc:((7:Nat):Int)=7:=rfl
     have dY:∀V:World,(Instr.index 223 (.agg #[.int .u16 32768,.int .u16 1024,.int .u16 512,.int .u16 256,.int .u16 128,.int .u16 64,.int .u16 32,.int .u16 16]) (.int .i64 7)).run Tryz.prog V=.ok (.int .u16 16) V:=fun _=>by kernel_rfl
     rcases cd with _|_
     all_goals
      go_wp2_with fail;go_roundw
      case rel=>exact⟨8,by omega,by go_num,rfl,(by first|rfl|trivial)⟩
      case measure=>simp[intOf]
   ·have e8:k=8:=by omega
    subst e8;go_wp2_with fail
    go_ret2
    refine⟨?_,dC⟩;rw[←z8.out];rfl
 ·have hk:zdy ⟨id,qr,o,aa,tc,rd,ra,z,ad,cd,c⟩=false:=by unfold zdy;rw[decide_eq_false_iff_not];dsimp only;omega
  rw[hk];clear hk hb;by_cases h1:o≤15
  ·have yh:¬((15:Int)<(o:Int)):=by omega
   have zZ:(15:Int)<(c:Int):=by omega
   go_enter Tryz.func68,Tryz.ntmps68;go_wp2_with fail
   go_ret2
   exact⟨rfl,xt⟩
  ·have yh:(15:Int)<(o:Int):=by omega
   go_enter Tryz.func68,Tryz.ntmps68;go_wp2_with fail
   go_ret2
   exact⟨rfl,xt⟩
def zhk (a b c d:Nat):Nat→List UInt8
 |0=>[]
 |1=>two a
 |2=>two a++two b
 |3=>two a++two b++two c
 |_=>two a++two b++two c++two d
theorem zCi (a b c d k:Nat):(zhk a b c d k).length≤8:=by
 unfold zhk;split<;>simp[zah]
theorem zxs (h:HdD) (a b c d:Nat) (w:World) (hb:BitsAt w) (ho:0≤h.op) (hc:0≤h.code) (hi:0≤h.id∧h.id≤65535) (bB:zdy h=true) (ha:a≤65535) (aM:b≤65535) (lH:c≤65535) (hd:d≤65535):
 Calls Tryz.prog 91 #[hdV h,.agg #[.int .i64 (a:Int),.int .i64 (b:Int),.int .i64 (c:Int),.int .i64 (d:Int)]] w fun e w'=>
  e=.returned (.tuple #[S (two h.id.toNat++two (zcf h)++zhk a b c d 4),.int .i64 0])∧Ext w w':=by
 have fw:=zt1 ho hc bB
 have HF:=Z7 (show ∀V,Ext w V→Calls Tryz.prog 68 #[hdV h] V (fun e w'=>e=.returned (.tuple #[.int .u16 (zcf h:Nat),.int .i64 0])∧Ext V w')from fun V hV=>(zoy h V (hb.ext hV) ho hc).mono fun e w' hh=>⟨by have h1:=hh.1;rw[if_pos bB]at h1;exact h1,hh.2⟩)
 obtain⟨F,hF⟩:∃F,F=zcf h:=⟨_,rfl⟩
 rw[←hF]at HF fw;rw[←hF];clear hF hb bB ho hc;have H2:=Z7 (fun(n:Nat) (hn:n≤65535) (X:List UInt8) (A:Option Addr) (c0 lo:Nat) (V:World) (hr:Rd V lo 1 A X.length (X.map U8)) (hx:X.length≤12)=>zdw lo A c0 X (n:Int) V hr (by omega) (by omega))
 have H1:=Z7 (fun V=>zdw 0 none 0 [] h.id V (Rd.nil _ _ _ _) (by simp) hi)
 obtain⟨X0,ar⟩:∃X0,X0=(w.alloc (.cells #[.int .u16 h.id,.bool h.qr,.int .u8 h.op,.bool h.aa,.bool h.tc,.bool h.rd,.bool h.ra,.bool h.z,.bool h.ad,.bool h.cd,.int .u8 h.code] 30)).alloc (.cells #[.int .i64 (a:Int),.int .i64 (b:Int),.int .i64 (c:Int),.int .i64 (d:Int)] 130):=⟨_,rfl⟩
 have aP:Ext w X0:=by rw[ar];exact((Z5 _).alloc _).alloc _
 have r0:X0.heap[w.heap.size]? =some (.cells #[.int .u16 h.id,.bool h.qr,.int .u8 h.op,.bool h.aa,.bool h.tc,.bool h.rd,.bool h.ra,.bool h.z,.bool h.ad,.bool h.cd,.int .u8 h.code] 30):=by rw[ar];exact heap_alloc2_old w _ _
 have r1:X0.heap[w.heap.size+1]? =some (.cells #[.int .i64 (a:Int),.int .i64 (b:Int),.int .i64 (c:Int),.int .i64 (d:Int)] 130):=by rw[ar];exact heap_alloc2_new w _ _
 have z0:=(Z9 r0)
 have z1:=(Z9 r1)
 have K0:=Z7 (fun V (hV:Ext X0 V)=>cell_of_row V _ 0 _ _ _ ((hV.block _ z0).trans r0))
 have K1:=Z7 (fun V (hV:Ext X0 V)=>(hV.block _ z1).trans r1)
 have nV:=HF.out _ aP
 go_enter Tryz.func91,Tryz.ntmps91;go_upto_region 1 with fail
 rw[←ar];have q0:∀j,X0.cell? ⟨w.heap.size,j,none⟩= #[.int .u16 h.id,.bool h.qr,.int .u8 h.op,.bool h.aa,.bool h.tc,.bool h.rd,.bool h.ra,.bool h.z,.bool h.ad,.bool h.cd,.int .u8 h.code][j]? :=fun j=>cell_of_row X0 _ j _ _ _ r0
 clear ar r1 z0 z1;go_wp2_with fail;refine nV.mono ?_;rintro e w1 ⟨rfl,ae⟩;have p1:w1.cell? ⟨w.heap.size,0,none⟩=some (.int .u16 h.id):=K0.out _ ae
 clear q0 r0 nV HF;go_wp2_with fail;refine(H1.out _).mono ?_;rintro e w2 ⟨A2,c2,rfl,aI,ah⟩;rw[List.nil_append]at aI;have qV:((F:Nat):Int).toNat=F:=Int.toNat_natCast F
 have gQ:=H2.out F (by omega) (two h.id.toNat) A2 c2 w1.heap.size w2 aI.rd (by simp[zah])
 rw[List.nil_append];go_wp2_with fail;refine gQ.mono ?_;rintro e w3 ⟨A3,c3,rfl,cR,ao⟩;rw[qV]at cR;rw[qV];have lI:Ext X0 w3:=(ae.trans ah).trans ao
 have r3:=K1.out _ lI
 have p30:w3.cell? ⟨w.heap.size+1,0,none⟩=some (.int .i64 (a:Int)):=cell_of_row w3 _ 0 _ _ _ r3
 have p31:w3.cell? ⟨w.heap.size+1,1,none⟩=some (.int .i64 (b:Int)):=cell_of_row w3 _ 1 _ _ _ r3
 have p32:w3.cell? ⟨w.heap.size+1,2,none⟩=some (.int .i64 (c:Int)):=cell_of_row w3 _ 2 _ _ _ r3
 have p33:w3.cell? ⟨w.heap.size+1,3,none⟩=some (.int .i64 (d:Int)):=cell_of_row w3 _ 3 _ _ _ r3
 clear r3 qV gQ p1 K0 K1 H1 fw hi;go_wp2_with fail
 go_loopw [4,5,8,10,25] (fun s4 s5 s8 _ s25 wr=>∃(k:Nat) (X:List UInt8) (A:Option Addr) (c0 lo:Nat),k≤4∧s25=.int .i64 k∧s8=.slice A X.length c0∧X=two h.id.toNat++two F++zhk a b c d k∧Rd wr lo 1 A X.length (X.map U8)∧Ext w3 wr∧s4=.string ⟨#[]⟩∧s5=.int .i64 0) (fun _ _ _ _ s25 _=>4 - (intOf s25).toNat)
 case atStart=>exact⟨0,two h.id.toNat++two F,A3,c3,_,by omega,rfl,rfl,by simp[zhk],cR.rd,Z5 _,rfl,rfl⟩
 case round=>
  obtain⟨k,X,A,c0,lo,hk,rfl,rfl,hX,hr,aN,rfl,rfl⟩:=hrel
  obtain⟨wo,rfl⟩:∃wo:World,wo=wr:=⟨_,rfl⟩
  have gF:X.length≤12:=by
   rw[hX];have:=zCi a b c d k;simp only[Z6,zah];omega
  have HX:=Z7 hX
  clear hX p30 p31 p32 p33;rcases Nat.lt_or_ge k 4 with hk8|hk8
  ·rcases(by omega:k=0∨k=1∨k=2∨k=3)with rfl|rfl|rfl|rfl
   ·have cD:((0:Nat):Int)=0:=rfl
    have dY:∀V:World,(Instr.index 130 (.agg #[.int .i64 (a:Int),.int .i64 (b:Int),.int .i64 (c:Int),.int .i64 (d:Int)]) (.int .i64 0)).run Tryz.prog V=.ok (.int .i64 (a:Int)) V:=fun _=>by kernel_rfl
    have hq:=H2.out a ha X A c0 lo wo hr gF
    have j7:¬((a:Int)<0):=by omega
    have ln:¬((65535:Int)<(a:Int)):=by omega
    clear H2;go_wp2_with fail;refine hq.mono ?_;rintro e w4 ⟨A1,c1,rfl,bS,aL⟩;rw[Int.toNat_natCast]at bS;rw[Int.toNat_natCast];go_wp2_with fail;go_roundw
    case rel=>exact⟨1,X++two a,A1,c1,_,by omega,by go_num,by rw[Z6],by rw[HX.out];simp[zhk],bS.rd,aN.trans aL,rfl,rfl⟩
    case measure=>simp[intOf]
   ·have cD:((1:Nat):Int)=1:=rfl
    have dY:∀V:World,(Instr.index 130 (.agg #[.int .i64 (a:Int),.int .i64 (b:Int),.int .i64 (c:Int),.int .i64 (d:Int)]) (.int .i64 1)).run Tryz.prog V=.ok (.int .i64 (b:Int)) V:=fun _=>by kernel_rfl
    have hq:=H2.out b aM X A c0 lo wo hr gF
    have j7:¬((b:Int)<0):=by omega
    have ln:¬((65535:Int)<(b:Int)):=by omega
    clear H2;go_wp2_with fail;refine hq.mono ?_;rintro e w4 ⟨A1,c1,rfl,bS,aL⟩;rw[Int.toNat_natCast]at bS;rw[Int.toNat_natCast];go_wp2_with fail;go_roundw
    case rel=>exact⟨2,X++two b,A1,c1,_,by omega,by go_num,by rw[Z6],by rw[HX.out];simp[zhk],bS.rd,aN.trans aL,rfl,rfl⟩
    case measure=>simp[intOf]
   ·have cD:((2:Nat):Int)=2:=rfl
    have dY:∀V:World,(Instr.index 130 (.agg #[.int .i64 (a:Int),.int .i64 (b:Int),.int .i64 (c:Int),.int .i64 (d:Int)]) (.int .i64 2)).run Tryz.prog V=.ok (.int .i64 (c:Int)) V:=fun _=>by kernel_rfl
    have hq:=H2.out c lH X A c0 lo wo hr gF
    have j7:¬((c:Int)<0):=by omega
    have ln:¬((65535:Int)<(c:Int)):=by omega
    clear H2;go_wp2_with fail;refine hq.mono ?_;rintro e w4 ⟨A1,c1,rfl,bS,aL⟩;rw[Int.toNat_natCast]at bS;rw[Int.toNat_natCast];go_wp2_with fail;go_roundw
    case rel=>exact⟨3,X++two c,A1,c1,_,by omega,by go_num,by rw[Z6],by rw[HX.out];simp[zhk],bS.rd,aN.trans aL,rfl,rfl⟩
    case measure=>simp[intOf]
   ·have cD:((3:Nat):Int)=3:=rfl
    have dY:∀V:World,(Instr.index 130 (.agg #[.int .i64 (a:Int),.int .i64 (b:Int),.int .i64 (c:Int),.int .i64 (d:Int)]) (.int .i64 3)).run Tryz.prog V=.ok (.int .i64 (d:Int)) V:=fun _=>by kernel_rfl
    have hq:=H2.out d hd X A c0 lo wo hr gF
    have j7:¬((d:Int)<0):=by omega
    have ln:¬((65535:Int)<(d:Int)):=by omega
    clear H2;go_wp2_with fail;refine hq.mono ?_;rintro e w4 ⟨A1,c1,rfl,bS,aL⟩;rw[Int.toNat_natCast]at bS;rw[Int.toNat_natCast];go_wp2_with fail;go_roundw
    case rel=>exact⟨4,X++two d,A1,c1,_,by omega,by go_num,by rw[Z6],by rw[HX.out];simp[zhk],bS.rd,aN.trans aL,rfl,rfl⟩
    case measure=>simp[intOf]
  ·have e8:k=4:=by omega
   subst e8;have gD:=zeb c0 hr
   go_wp2_with fail
   go_ret2
   exact⟨by rw[HX.out];rfl,((aP.trans lI).trans aN)⟩
def zcw (o:OpD):List Value:=[.int .u16 o.code,S o.data]
def Opts (w:World) (lo:Nat) (v:Value) (l:List OpD):Prop:=∃A c,v=.slice A l.length c∧l.length≤c∧c≤maxLen∧Rd w lo 2 A l.length (l.flatMap zcw)
theorem Opts.ext {w w':World} {lo:Nat} {v:Value} {l:List OpD} (h:Opts w lo v l) (hE:Ext w w'):Opts w' lo v l:=by
 obtain⟨A,c,h1,h2,h3,h4⟩:=h
 exact⟨A,c,h1,h2,h3,h4.ext hE⟩
theorem zkn {w:World} {b off:Nat} {l:List OpD} (hc:∀j u,(l.flatMap zcw)[j]? =some u→w.cell? ⟨b,off+j,none⟩=some u) (k:Nat) (o:OpD) (ho:l[k]? =some o):
 w.cell? ⟨b,off+k*2,none⟩=some (.int .u16 o.code)∧w.cell? ⟨b,off+k*2+1,none⟩=some (S o.data):=by
 have h:=fun j (hj:j<2)=>zb7 zcw 2 (fun _=>rfl) l k j o ho hj
 exact⟨hc (k*2+0) _ (h 0 (by omega)),hc (k*2+1) _ (h 1 (by omega))⟩
def opW (o:OpD):List UInt8:=two o.code.toNat++two o.data.length++o.data
def opsW (l:List OpD):List UInt8:=l.flatMap opW
theorem ztl (e:EdD):zfy e=opsW e.opts:=rfl
theorem zq8 (o:OpD):(opW o).length=4+o.data.length:=by simp only[opW,Z6,zah]
theorem zm3 (l:List OpD) (k:Nat) (h:k<l.length):opsW (l.take (k+1))=opsW (l.take k)++opW l[k]:=by
 unfold opsW;rw[List.take_succ_eq_append_getElem h,List.flatMap_append];simp
theorem zq9 (l:List OpD) (k:Nat):(opsW (l.take k)).length≤(opsW l).length:=by
 conv=>rhs;rw[←List.take_append_drop k l]
 unfold opsW;rw[List.flatMap_append,Z6];omega
abbrev edV (e:EdD) (v:Value):Value:=.agg #[.int .u16 e.size,.int .u8 e.ext,.int .u8 e.ver,.int .u16 e.flags,v]
theorem zGm (x v f:Nat) (hx:x≤255) (hv:v≤255) (hf:f≤65535):
 bits .or .u32 ((x:Int)*16777216) ((v:Int)*65536)=((x*16777216+v*65536:Nat):Int)∧bits .or .u32 ((x*16777216+v*65536:Nat):Int) (f:Int)=((x*16777216+v*65536+f:Nat):Int):=by
 have h1:=u32_or_nat (x*16777216) (v*65536) (by omega) (by omega)
 have h2:=u32_or_nat (x*16777216+v*65536) f (by omega) (by omega)
 have e1:=Nat.two_pow_add_eq_or_of_lt (i:=24) (b:=v*65536) (by omega) x
 have e2:=Nat.two_pow_add_eq_or_of_lt (i:=16) (b:=f) (by omega) (x*256+v)
 have e3:x*16777216|||v*65536=x*16777216+v*65536:=by rw[Nat.mul_comm];exact e1.symm
 have e4:x*16777216+v*65536|||f=x*16777216+v*65536+f:=by
  have:x*16777216+v*65536=2^16*(x*256+v):=by omega
  rw[this];exact e2.symm
 rw[Int.natCast_mul,Int.natCast_mul,e3]at h1;rw[e4]at h2;exact⟨h1,h2⟩
theorem ze6 {fn:Func} {t u v x:Tmp} (h:fn.results= #[.tmp t,.tmp u,.tmp v,.tmp x]) (tmps:Array Value) (P:Program) (w:World):
 (results fn tmps).run P w=.ok (.tuple #[tmps.getD t undef,tmps.getD u undef,tmps.getD v undef,tmps.getD x undef]) w:=by
 simp[results,h]
theorem zxi (e:EdD) (v:Value) (w:World) (hv:Opts w 0 v e.opts) (h1:0≤e.ext∧e.ext≤255) (h2:0≤e.ver∧e.ver≤255) (h3:0≤e.flags∧e.flags≤65535) (h4:∀o∈e.opts,0≤o.code∧o.code≤65535):
 Calls Tryz.prog 97 #[edV e v] w fun x w'=>
  (if 65535<(zfy e).length then x=.returned (.tuple #[.int .u16 0,.int .u32 0,S [],.int .i64 5])else x=.returned (.tuple #[.int .u16 e.size,.int .u32 (zd3 e:Nat),S (zfy e),.int .i64 0]))∧Ext w w':=by
 obtain⟨sz,ex,ve,fl,l⟩:=e
 dsimp only at*;obtain⟨xn,rfl⟩:=Int.eq_ofNat_of_zero_le h1.1
 obtain⟨vn,rfl⟩:=Int.eq_ofNat_of_zero_le h2.1
 obtain⟨fn,rfl⟩:=Int.eq_ofNat_of_zero_le h3.1
 obtain⟨FC,Aa⟩:=zGm xn vn fn (by omega) (by omega) (by omega)
 have Ab:=Z7 (show bits BinOp.or IntKind.u32 ((xn:Int)*16777216+(vn:Int)*65536) (fn:Int)=((xn*16777216+vn*65536+fn:Nat):Int)by rw[←Aa];rfl)
 have cV:zd3 ⟨sz,xn,vn,fn,l⟩=xn*16777216+vn*65536+fn:=by unfold zd3;simp only[Int.toNat_natCast]
 rw[cV,ztl];dsimp only;clear cV;obtain⟨A,c,rfl,lD,iU,ay⟩:=hv
 unfold maxLen at iU;have JT:=zb7 zcw 2 (fun _=>rfl) l
 obtain⟨X0,ar⟩:∃X0,X0=w.alloc (.cells #[.int .u16 sz,.int .u8 (xn:Int),.int .u8 (vn:Int),.int .u16 (fn:Int),.slice A l.length c] 43):=⟨_,rfl⟩
 have aP:Ext w X0:=by rw[ar];exact(Z5 _).alloc _
 have r0:X0.heap[w.heap.size]? =some (.cells #[.int .u16 sz,.int .u8 (xn:Int),.int .u8 (vn:Int),.int .u16 (fn:Int),.slice A l.length c] 43):=by rw[ar];exact heap_alloc_new _ _
 have z0:=(Z9 r0)
 have K0:=Z7 (fun V (hV:Ext X0 V)=>(hV.block _ z0).trans r0)
 have k4:X0.cell? ⟨w.heap.size,4,none⟩=some (.slice A l.length c):=cell_of_row X0 _ 4 _ _ _ r0
 go_enter Tryz.func97,Tryz.ntmps97;go_upto_region 1 with fail
 rw[←ar];clear ar r0;go_wp2_with fail
 go_loopw [2,3,4,5,6,8,16] (fun s2 s3 s4 s5 s6 _ s16 wr=>∃k:Nat,k≤l.length∧s16=.int .i64 k∧s6=.int .i64 (opsW (l.take k)).length∧(opsW (l.take k)).length≤65535∧Ext X0 wr∧s2=.int .u16 0∧s3=.int .u32 0∧s4=.string ⟨#[]⟩∧s5=.int .i64 0) (fun _ _ _ _ _ _ s16 _=>l.length - (intOf s16).toNat)
 case atStart=>exact⟨0,Nat.zero_le _,rfl,by simp[opsW],by simp[opsW],Z5 _,rfl,rfl,rfl,rfl⟩
 case round=>
  obtain⟨k,hk,rfl,rfl,cv,hE,rfl,rfl,rfl,rfl⟩:=hrel
  obtain⟨wo,rfl⟩:∃wo:World,wo=wr:=⟨_,rfl⟩
  by_cases ab:k<l.length
  ·obtain⟨b,off,rfl,_,az,hc⟩:=(ay.ext (aP.trans hE)).2 (by omega)
   obtain⟨c0,c1⟩:=zkn hc k l[k] (Z3 ab)
   have bO:=Z7 (show(opsW (l.take (k+1))).length=(opsW (l.take k)).length+(4+l[k].data.length)by rw[zm3 l k ab,Z6,zq8])
   have gI:=zq9 l (k+1)
   have cI:=h4 l[k] (List.getElem_mem ab)
   generalize l[k]=o at*;generalize hT:(opsW (l.take k)).length=T at*;clear hT hc;obtain⟨oc,od⟩:=o
   dsimp only at*;have cz:(k:Int)<(l.length:Int):=by omega
   have cW:(0:Int)≤(k:Int):=by omega
   by_cases ib:65535<od.length
   ·have cQ:(65535:Int)<(od.length:Int):=by omega
    have nW:65535<(opsW l).length:=by have:=bO.out;omega
    clear k4;go_wp2_with fail;refine bodyPost_ret (ze6 rfl _ _ _) rfl ⟨?_,aP.trans (hE.alloc _)⟩
    first
     |(rw[if_pos nW];rfl)
     |rfl
   ·have cQ:¬((65535:Int)<(od.length:Int)):=by omega
    by_cases Dc:65535<T+(4+od.length)
    ·have cj:(65535:Int)<(T:Int)+(4+(od.length:Int)):=by omega
     have nW:65535<(opsW l).length:=by have:=bO.out;omega
     clear k4;go_wp2_with fail;refine bodyPost_ret (ze6 rfl _ _ _) rfl ⟨?_,aP.trans (hE.alloc _)⟩
     first
      |(rw[if_pos nW];rfl)
      |rfl
    ·have cj:¬((65535:Int)<(T:Int)+(4+(od.length:Int))):=by omega
     clear k4;go_wp2_with fail;go_roundw
     case rel=>exact⟨k+1,by omega,by go_num,by rw[bO.out];go_num,by rw[bO.out];omega,hE.alloc _,rfl,rfl,rfl,rfl⟩
     case measure=>simp[intOf];omega
  ·have ek:k=l.length:=by omega
   subst ek;rw[List.take_length]at cv;rw[List.take_length];have lJ:¬65535<(opsW l).length:=by omega
   have k4':wo.cell? ⟨w.heap.size,4,none⟩=some (.slice A l.length c):=cell_of_row wo _ 4 _ _ _ (K0.out _ hE)
   obtain⟨i0,aH,aF,aC,ax⟩:=info_parts zfa
   obtain⟨N,hN⟩:∃N,N=(opsW l).length:=⟨_,rfl⟩
   rw[←hN]at cv;rw[←hN];have HN:=Z7 hN
   have yi:=Z7 lJ
   clear hN lJ k4;have iJ:¬((l.length:Int)<(l.length:Int)):=by omega
   go_wp2_with(first
    |(refine wpList_make_own _ rfl _ _ _ rfl wo.heap.size 5 i0 _ 1 Tryz.underlying110 aH aF aC _ _ _ N rfl rfl (by go_num) (by rw[ax];omega) (by unfold maxLen;omega) (Z4 _) ?_
      intro w1 bm bh;have ae:=zj4 bh
      have Ac:=Z7 (show Own w1 wo.heap.size 5 1 (some ⟨wo.heap.size,0,none⟩) 0 N []from bm)
      have k41:w1.cell? ⟨w.heap.size,4,none⟩=some (.slice A l.length c):=cell_of_row w1 _ 4 _ _ _ (K0.out _ (hE.trans ae))
      clear k4')
    |fail)
   clear bm bh
   go_loopw [9,11,12,38] (fun s9 _ _ s38 wr=>∃(k c2:Nat) (A2:Option Addr),k≤l.length∧s38=.int .i64 k∧s9=.slice A2 (opsW (l.take k)).length c2∧Own wr wo.heap.size 5 1 A2 (opsW (l.take k)).length c2 ((opsW (l.take k)).map U8)∧Ext wo wr) (fun _ _ _ s38 _=>l.length - (intOf s38).toNat)
   case atStart=>exact⟨0,N,some ⟨wo.heap.size,0,none⟩,Nat.zero_le _,rfl,by simp[opsW],by simpa[opsW]using Ac.out,ae⟩
   case round=>
    obtain⟨k,c2,A2,lv,rfl,rfl,aI,ah⟩:=hrel
    obtain⟨w2,rfl⟩:∃w2:World,w2=wr:=⟨_,rfl⟩
    have gh:Ext X0 w2:=hE.trans ah
    by_cases ce:k<l.length
    ·obtain⟨b,off,rfl,_,az,hc⟩:=(ay.ext (aP.trans gh)).2 (by omega)
     obtain⟨c0,c1⟩:=zkn hc k l[k] (Z3 ce)
     have aK:=zm3 l k ce
     have gI:=zq9 l (k+1)
     have cI:=h4 l[k] (List.getElem_mem ce)
     generalize l[k]=o at*;have kP:=congrArg List.length aK
     rw[Z6,zq8]at kP;have FD:=HN.out
     obtain⟨oc,od⟩:=o
     dsimp only at*;have qu:od.length≤65535:=by omega
     have yj:(opsW (l.take k)).length≤65535:=by omega
     have bO:=Z7 aK
     generalize opsW (l.take k)=T at*;have Ad:(0:Int)≤(od.length:Int)∧(od.length:Int)≤65535:=by omega
     have kW:=Z7 (fun V=>zdw 0 none 0 [] oc V (Rd.nil _ _ _ _) (by simp) cI)
     have ka:=Z7 (fun(V:World) (lo:Nat) (A:Option Addr) (c:Nat) (hr:Rd V lo 1 A (two oc.toNat).length ((two oc.toNat).map U8))=>zdw lo A c (two oc.toNat) (od.length:Int) V hr (by simp[zah]) Ad)
     clear aK hc gI kP FD cv;have Dd:(two oc.toNat++two ((od.length:Int)).toNat).length=4:=by rw[Z6,zah,zah]
     have JU:=Z7 Dd
     clear Dd;go_wp2_with(first
      |(go_at_call 95
        refine(ka.out w3 _ A3 c3 cR.rd).mono ?_;rintro e w4 ⟨A4,c4,rfl,bS,aL⟩;have eG:Ext w2 w4:=Ae.trans aL
        have Af:w4.cell? ⟨w2.heap.size,1,none⟩=some (S od):=(aL.cell (p:=⟨w2.heap.size,1,none⟩) ft).trans sY)
      |(go_at_call 95
        refine(kW.out _).mono ?_;rintro e w3 ⟨A3,c3,rfl,cR,ao⟩;rw[List.nil_append]at cR;rw[List.nil_append];have Ae:Ext w2 w3:=((Z5 w2).alloc _).trans ao
        have sY:w3.cell? ⟨w2.heap.size,1,none⟩=some (S od):=(zap ao).1 1
        have ft:w2.heap.size<w3.heap.size:=(zap ao).2.2)
      |(at_builtin
        refine zad _ rfl (.tmp 45) (.tmp 51) _ rfl wo.heap.size 5 i0 _ 1 1 Tryz.underlying110 aH aF aC ax rfl (by omega) A2 T.length c2 (T.map U8) rfl (aI.ext eG) w3.heap.size A4 ((two oc.toNat).length+(two od.length).length) c4 ((two oc.toNat++two od.length).map U8) rfl (by have:=bS.rd;rw[Int.toNat_natCast,Z6]at this;exact this) (zf6 _) (by simp only[zah];omega) (by omega) (ah.trans eG).size ?_
        intro A5 c5 w5 cw bq aG _;have FE:w5.cell? ⟨w2.heap.size,1,none⟩=some (S od):=bq.cell Af (fun e=>Nat.lt_irrefl _ (aI.blk _ e.symm).2))
      |(at_builtin
        refine zbh _ rfl (.tmp 53) (.tmp 55) _ _ rfl wo.heap.size 5 i0 Tryz.underlying110 Tryz.underlying9 aH aF aC ax A5 (T.length+((two oc.toNat).length+(two od.length).length)) c5 (T.map U8++(two oc.toNat++two od.length).map U8) rfl cw od rfl (by simp only[zah];omega) (Z2 (ah.trans eG).size aG.size) ?_
        intro A6 c6 w6 dw dG dT)
      |fail)
     go_roundw
     case rel=>
      have aq:(T++opW ⟨oc,od⟩).length=T.length+((two oc.toNat).length+(two od.length).length)+od.length:=by simp only[opW,Z6];omega
      refine⟨k+1,c6,A6,by omega,by go_num,by rw[bO.out,aq],?_,((ah.trans eG).then aG (Z4 _)).then dT (Z4 _)⟩
      rw[bO.out,aq];have e:(T++opW ⟨oc,od⟩).map U8=T.map U8++(two oc.toNat++two od.length).map U8++od.map fun b=>Value.int .u8 b.toNat:=by
       simp only[opW,List.map_append,List.append_assoc]
      rw[e];exact dw
     case measure=>simp[intOf];omega
    ·have ek:k=l.length:=by omega
     subst ek;rw[List.take_length]at aI;rw[List.take_length];have gD:=zeb c2 (aI.rd.ext (Z5 w2).drew)
     have r2:=K0.out _ gh
     have q0:w2.cell? ⟨w.heap.size,0,none⟩=some (.int .u16 sz):=cell_of_row w2 _ 0 _ _ _ r2
     have q1:w2.cell? ⟨w.heap.size,1,none⟩=some (.int .u8 (xn:Int)):=cell_of_row w2 _ 1 _ _ _ r2
     have q2:w2.cell? ⟨w.heap.size,2,none⟩=some (.int .u8 (vn:Int)):=cell_of_row w2 _ 2 _ _ _ r2
     have q3:w2.cell? ⟨w.heap.size,3,none⟩=some (.int .u16 (fn:Int)):=cell_of_row w2 _ 3 _ _ _ r2
     have yd:¬65535<(opsW l).length:=yi.out
     clear r2;go_wp2_with fail;go_region;go_wp2_with fail;refine bodyPost_ret (ze6 rfl _ _ _) rfl ⟨?_,aP.trans (gh.trans (Z5 w2).drew)⟩
     first
      |rw[if_neg yi.out]
      |skip
     show Ending.returned (Value.tuple #[.int .u16 sz,.int .u32 (bits BinOp.or IntKind.u32 ((xn:Int)*16777216+(vn:Int)*65536) (fn:Int)),S (opsW l),.int .i64 0])=_
     rw[Ab.out];rfl
def zcq (q:QD):List Value:=[S q.name,.int .u16 q.typ,.int .u16 q.cls]
def Qus (w:World) (lo:Nat) (v:Value) (l:List QD):Prop:=∃A c,v=.slice A l.length c∧l.length≤c∧c≤maxLen∧Rd w lo 3 A l.length (l.flatMap zcq)
theorem Qus.ext {w w':World} {lo:Nat} {v:Value} {l:List QD} (h:Qus w lo v l) (hE:Ext w w'):Qus w' lo v l:=by
 obtain⟨A,c,h1,h2,h3,h4⟩:=h
 exact⟨A,c,h1,h2,h3,h4.ext hE⟩
theorem zdt {w:World} {b off:Nat} {l:List QD} (hc:∀j u,(l.flatMap zcq)[j]? =some u→w.cell? ⟨b,off+j,none⟩=some u) (k:Nat) (q:QD) (hq:l[k]? =some q):
 w.cell? ⟨b,off+k*3,none⟩=some (S q.name)∧w.cell? ⟨b,off+k*3+1,none⟩=some (.int .u16 q.typ)∧w.cell? ⟨b,off+k*3+2,none⟩=some (.int .u16 q.cls):=by
 have h:=fun j (hj:j<3)=>zb7 zcq 3 (fun _=>rfl) l k j q hq hj
 exact⟨hc (k*3+0) _ (h 0 (by omega)),hc (k*3+1) _ (h 1 (by omega)),hc (k*3+2) _ (h 2 (by omega))⟩
abbrev zfd (h:HdD) (q a u x:Value) (he:Bool) (e:EdD) (o:Value):Value:=.agg #[.int .u16 h.id,.bool h.qr,.int .u8 h.op,.bool h.aa,.bool h.tc,.bool h.rd,.bool h.ra,.bool h.z,.bool h.ad,.bool h.cd,.int .u8 h.code,q,a,u,x,.bool he,.int .u16 e.size,.int .u8 e.ext,.int .u8 e.ver,.int .u16 e.flags,o]
def zfi (r:RecD):Prop:=r.name.length≤1048576∧r.data.length≤1048576
theorem zla (lo:Nat) (v:Value) (l:List RecD) (w:World) (hg:Laid w) (h:Recs w lo v l) (bB:∀r∈l,zfi r):
 Calls Tryz.prog 71 #[v] w fun e w'=>e=.returned (.bool (l.all zac))∧Ext w w':=by
 obtain⟨A,c,rfl,h1,h2,ay⟩:=h
 unfold maxLen at h2;obtain⟨R,hR⟩:∃R,R=l.all zac:=⟨_,rfl⟩
 rw[←hR];have HR:=Z7 hR
 clear hR;go_enter Tryz.func71,Tryz.ntmps71;go_wp2_with fail
 go_loopw [2,4,7] (fun s2 _ s7 wr=>∃k:Nat,k≤l.length∧s2=.bool false∧s7=.int .i64 k∧(l.drop k).all zac=R∧Ext w wr) (fun _ _ s7 _=>l.length - (intOf s7).toNat)
 case atStart=>exact⟨0,Nat.zero_le _,rfl,rfl,by rw[HR.out,List.drop_zero],Z5 _⟩
 case round=>
  obtain⟨k,hk,rfl,rfl,aX,hE⟩:=hrel
  obtain⟨wo,rfl⟩:∃wo:World,wo=wr:=⟨_,rfl⟩
  by_cases ab:k<l.length
  ·obtain⟨b,off,rfl,_,az,hc⟩:=(ay.ext hE).2 (by omega)
   obtain⟨x0,x1,x2,x3,x4⟩:=zfe hc k l[k] (Z3 ab)
   have hx:=bB l[k] (List.getElem_mem ab)
   rw[List.drop_eq_getElem_cons ab,List.all_cons]at aX;have yf:zac l[k]=(decide (l[k].typ≠41)&&(may l[k].name&&rmay l[k].typ l[k].data)):=by unfold zac;rw[Bool.and_assoc]
   rw[yf]at aX;generalize l[k]=r at*;obtain⟨nm,ty,cl,tt,da⟩:=r
   obtain⟨j7,fB⟩:=hx
   dsimp only at*;have HN:=Z7 (fun V=>zbe nm V (by unfold maxLen;omega))
   have HD:=Z7 (fun V (hV:Ext wo V)=>zm8 ty da V (hg.ext (hE.trans hV)) fB)
   have di:=Z7 aX
   generalize may nm=bn at*;generalize rmay ty da=bd at*;clear hc yf aX;have cz:(k:Int)<(l.length:Int):=by omega
   have cW:(0:Int)≤(k:Int):=by omega
   by_cases dt:ty=41
   ·subst dt;have hF:R=false:=by rw[←di.out];rfl
    go_wp2_with fail;go_ret;exact⟨by first|rfl|(rw[hF];rfl),hE.trans xt⟩
   ·have f41:(ty==41)=false:=by rw[beq_eq_false_iff_ne];exact dt
    have d41:decide (ty≠41)=true:=by rw[decide_eq_true_eq];exact dt
    rcases bn with _|_
    ·have hF:R=false:=by rw[←di.out,d41];rfl
     go_wp2_with fail;refine(HN.out _).mono ?_;rintro e w1 ⟨rfl,rfl⟩;go_wp2_with fail;go_ret;exact⟨by first|rfl|(rw[hF];rfl),hE.trans xt⟩
    ·go_wp2_with fail;refine(HN.out _).mono ?_;rintro e w1 ⟨rfl,rfl⟩;go_wp2_with fail;refine(HD.out _ ((Z5 wo).alloc _)).mono ?_;rintro e w2 ⟨rfl,ah⟩;have ic:Ext wo w2:=((Z5 wo).alloc _).trans ah
     rcases bd with _|_
     ·have hF:R=false:=by rw[←di.out,d41];rfl
      go_wp2_with fail;go_ret;exact⟨by first|rfl|(rw[hF];rfl),hE.trans ic⟩
     ·have HF:=Z7 (show(l.drop (k+1)).all zac=R by rw[←di.out,d41];simp)
      go_wp2_with fail;go_roundw
      case rel=>exact⟨k+1,by omega,rfl,by go_num,HF.out,hE.trans ic⟩
      case measure=>simp[intOf];omega
  ·have e1:l.drop k=[]:=List.drop_of_length_le (by omega)
   rw[e1]at aX;have hF:R=true:=by rw[←aX];rfl
   have cS:¬((k:Int)<(l.length:Int)):=by omega
   clear aX e1;go_wp2_with fail;go_ret;exact⟨by first|rfl|(rw[hF];rfl),hE⟩
theorem znr (h:HdD) (qA aA uA xA:Option Addr) (qn an un xn qc ac uc xc:Nat) (he:Bool) (e:EdD) (o:Value) (w:World) (hx:xn≤1152921504606846976):
 Calls Tryz.prog 70 #[zfd h (.slice qA qn qc) (.slice aA an ac) (.slice uA un uc) (.slice xA xn xc) he e o] w fun r w'=>
  r=.returned (.agg #[.int .i64 (qn:Int),.int .i64 (an:Int),.int .i64 (un:Int),.int .i64 ((xn+if he then 1 else 0:Nat):Int)])∧Ext w w':=by
 rcases he with _|_
 all_goals
  go_enter Tryz.func70,Tryz.ntmps70;go_wp2_with fail;refine bodyPost_ret (results_cell_row rfl _ _ (w.heap.size+1) _ _ _ _ rfl (heap_alloc2_new w _ _) Tryz.underlying130 rfl (by kernel_rfl)) rfl ⟨rfl,((Z5 w).alloc _).alloc _⟩
theorem zy6 (lo:Nat) (v:Value) (l:List OpD) (w:World) (hv:Opts w lo v l):
 Calls Tryz.prog 131 #[v,.slice none 0 0] w fun x w'=>x=.returned (.bool l.isEmpty)∧w=w':=by
 obtain⟨A,c,rfl,h1,h2,_⟩:=hv
 rcases l with _|⟨o,l⟩
 ·go_enter Tryz.func131,Tryz.ntmps131;go_wp2_with fail
  go_loopw [4,5,13] (fun s4 _ s13 wr=>s4=.bool false∧s13=.int .i64 0∧w=wr) (fun _ _ _ _=>0)
  case atStart=>exact⟨rfl,rfl,rfl⟩
  case round=>
   obtain⟨rfl,rfl,rfl⟩:=hrel
   go_wp2_with fail;go_ret;exact⟨rfl,rfl⟩
 ·have hn:(((o::l).length:Int)==0)=false:=zbm (by simp)
  obtain⟨N,hN⟩:∃N,N=(o::l).length:=⟨_,rfl⟩
  rw[←hN]at hn h1;rw[←hN];clear hN;go_enter Tryz.func131,Tryz.ntmps131;go_wp2_with fail;go_ret;exact⟨rfl,rfl⟩
theorem zxh (e:EdD) (v:Value) (w:World) (hv:Opts w 0 v e.opts):
 Calls Tryz.prog 69 #[edV e v,.agg #[.int .u16 0,.int .u8 0,.int .u8 0,.int .u16 0,.slice none 0 0]] w fun x w'=>x=.returned (.bool (zcd e))∧Ext w w':=by
 obtain⟨sz,ex,ve,fl,l⟩:=e
 dsimp only at hv;unfold zcd;dsimp only;have HQ:=Z7 (fun V (hV:Ext w V)=>zy6 0 v l V (hv.ext hV))
 obtain⟨A,c,rfl,h1,h2,_⟩:=hv
 have hb:(decide (sz=0∧ex=0∧ve=0∧fl=0)&&l.isEmpty)=(decide (sz=0)&&(decide (ex=0)&&(decide (ve=0)&&(decide (fl=0)&&l.isEmpty)))):=by
  by_cases a:sz=0<;>by_cases b:ex=0<;>by_cases c:ve=0<;>by_cases d:fl=0<;>simp[a,b,c,d]
 rw[hb];clear hb h1 h2;by_cases hs:sz=0
 rotate_left
 ·have f:(sz==0)=false:=beq_eq_false_iff_ne.2 hs
  rw[decide_eq_false hs];go_enter Tryz.func69,Tryz.ntmps69;go_wp2_with fail;go_ret;exact⟨rfl,xt⟩
 subst hs;by_cases hs:ex=0
 rotate_left
 ·have f:(ex==0)=false:=beq_eq_false_iff_ne.2 hs
  rw[decide_eq_false hs,decide_eq_true rfl];go_enter Tryz.func69,Tryz.ntmps69;go_wp2_with fail;go_ret;exact⟨rfl,xt⟩
 subst hs;by_cases hs:ve=0
 rotate_left
 ·have f:(ve==0)=false:=beq_eq_false_iff_ne.2 hs
  rw[decide_eq_false hs,decide_eq_true rfl];go_enter Tryz.func69,Tryz.ntmps69;go_wp2_with fail;go_ret;exact⟨rfl,xt⟩
 subst hs;by_cases hs:fl=0
 rotate_left
 ·have f:(fl==0)=false:=beq_eq_false_iff_ne.2 hs
  rw[decide_eq_false hs,decide_eq_true rfl];go_enter Tryz.func69,Tryz.ntmps69;go_wp2_with fail;go_ret;exact⟨rfl,xt⟩
 subst hs;go_enter Tryz.func69,Tryz.ntmps69;go_wp2_with fail;refine(HQ.out _ xt).mono ?_;rintro e w1 ⟨rfl,rfl⟩;go_wp2_with fail;go_ret;exact⟨by simp,xt⟩
section
variable {P : Program} {ops : Array Oper} {Q : Exit → Act → World → Prop}
theorem za9 {rest:List Oper} {o:Oper} {a:Act} {w:World} (Ag:Region.wanted o (yielded ops a.tmps)=true) (ty:TypeId) (x:Operand) (ho:o.op=.load ty x)
 (b off:Nat) (hx:a.eval x=.pointer (some ⟨b,off,none⟩)) (l:List Value) (hl:∀j v,l[j]? =some v→w.cell? ⟨b,off+j,none⟩=some v) (d:TypeDesc)
 (hu:P.underlying ty=some d) (hd:(match d with| .struct _| .array _ _=>true|_=>false)=true) (hi:(P.info? ty).map (·.size)=some l.length)
 (h:wpList P ops Q rest (a.put o.dst (.agg l.toArray)) w):wpList P ops Q (o::rest) a w:=by
 have lK:(loadVar ty ⟨b,off,none⟩).run P w=.ok (.agg l.toArray) w:=by
  have lD:(loadCells ⟨b,off,none⟩ l.length).run P w=.ok l.toArray w:=
   run_loadCells_list (P:=P) w ⟨b,off,none⟩ l (fun j v hv=>by rw[zdv];exact hl j v hv)
  cases hq:P.info? ty with
  |none=>simp[hq]at hi
  |some i=>
   have hs:i.size=l.length:=by simpa[hq]using hi
   have qW:(isAgg ty).run P w=.ok true w:=by
    unfold isAgg;rw[Sem.run_bind,run_underlying hu w];cases d<;>simp_all
   simp[loadVar,Sem.run_bind,qW,sizeOf,typeInfo,hq,hs,lD]
 refine wpList_step fun K hK=>?_
 rw[if_pos Ag];unfold Oper.wp execOp;simp only[ho,hx,Instr.loadAt,Instr.sureAddr,Sem.run_bind,Sem.run_pure,Result.andThen_ok,lK];exact hK _ _ h
end
theorem zcx {w:World} {b:Nat} {cs:Array Value} {t:TypeId} {fr:Nat×Nat} (h:w.heap[b]? =some (.cells cs t fr)) (off n:Nat):∀j v,((cs.toList.drop off).take n)[j]? =some v→w.cell? ⟨b,off+j,none⟩=some v:=fun j v hj=>by
 rw[List.getElem?_take]at hj;split at hj
 ·rw[List.getElem?_drop]at hj;rw[cell_of_row w b _ cs t fr h];simpa using hj
 ·cases hj
structure Msg7 (w:World) (m:MsgD) (q a u x o:Value):Prop where
 qs:Qus w 0 q m.qs
 ans:Recs w 0 a m.ans
 auth:Recs w 0 u m.auth
 extra:Recs w 0 x m.extra
 opts:Opts w 0 o m.ed.opts
 qok:∀q∈m.qs,q.name.length≤1048576
 aok:∀r∈m.ans,zfi r
 uok:∀r∈m.auth,zfi r
 xok:∀r∈m.extra,zfi r
 xl:m.extra.length≤1152921504606846976
theorem Msg7.ext {w w':World} {m:MsgD} {q a u x o:Value} (h:Msg7 w m q a u x o) (hE:Ext w w'):Msg7 w' m q a u x o:=
 ⟨h.qs.ext hE,h.ans.ext hE,h.auth.ext hE,h.extra.ext hE,h.opts.ext hE,h.qok,h.aok,h.uok,h.xok,h.xl⟩
def zgy (a b c d:Nat):Nat→Prop
 |0=>True
 |1=>a≤65535
 |2=>a≤65535∧b≤65535
 |3=>a≤65535∧b≤65535∧c≤65535
 |_=>a≤65535∧b≤65535∧c≤65535∧d≤65535
theorem zE7 (m:MsgD) (q a u x o:Value) (w:World) (hg:Laid w) (hb:BitsAt w) (ho:0≤m.hd.op) (hc:0≤m.hd.code) (h:Msg7 w m q a u x o):
 Calls Tryz.prog 34 #[zfd m.hd q a u x m.he m.ed o] w fun e w'=>e=.returned (.bool (zcj m))∧Ext w w':=by
 obtain⟨⟨qA,qc,rfl,dx,eS,fT⟩,⟨aA,ac,rfl,tq,tu,yk⟩,⟨uA,uc,rfl,lL,kp,yl⟩,⟨xA,xc,rfl,i6,gY,ym⟩,bL,x9,tv,nX,nY,gF⟩:=h
 obtain⟨hd,qs,ans,auth,extra,he,ed⟩:=m
 dsimp only at*;obtain⟨X0,ar⟩:∃X0,X0=w.alloc (.cells #[.int .u16 hd.id,.bool hd.qr,.int .u8 hd.op,.bool hd.aa,.bool hd.tc,.bool hd.rd,.bool hd.ra,.bool hd.z,.bool hd.ad,.bool hd.cd,.int .u8 hd.code,.slice qA qs.length qc,.slice aA ans.length ac,.slice uA auth.length uc,.slice xA extra.length xc,.bool he,.int .u16 ed.size,.int .u8 ed.ext,.int .u8 ed.ver,.int .u16 ed.flags,o] 45):=⟨_,rfl⟩
 have aP:Ext w X0:=by rw[ar];exact(Z5 _).alloc _
 have r0:X0.heap[w.heap.size]? =some (.cells #[.int .u16 hd.id,.bool hd.qr,.int .u8 hd.op,.bool hd.aa,.bool hd.tc,.bool hd.rd,.bool hd.ra,.bool hd.z,.bool hd.ad,.bool hd.cd,.int .u8 hd.code,.slice qA qs.length qc,.slice aA ans.length ac,.slice uA auth.length uc,.slice xA extra.length xc,.bool he,.int .u16 ed.size,.int .u8 ed.ext,.int .u8 ed.ver,.int .u16 ed.flags,o] 45):=by rw[ar];exact heap_alloc_new _ _
 have z0:=(Z9 r0)
 have K0:=Z7 (fun V (hV:Ext X0 V)=>(hV.block _ z0).trans r0)
 have HF:=Z7 (fun V (hV:Ext w V)=>zoy hd V (hb.ext hV) ho hc)
 obtain⟨N4,pD⟩:∃N4,N4=extra.length+if he then 1 else 0:=⟨_,rfl⟩
 have FF:N4≤1152921504606846977:=by rw[pD];split<;>omega
 have HC:=Z7 (fun V=>znr hd qA aA uA xA qs.length ans.length auth.length extra.length qc ac uc xc he ed o V gF)
 rw[←pD]at HC;have H3:=Z7 (show decide (qs.length≤65535∧ans.length≤65535∧auth.length≤65535∧extra.length+(if he=true then 1 else 0)≤65535)=decide (qs.length≤65535∧ans.length≤65535∧auth.length≤65535∧N4≤65535)by rw[pD])
 have HM:=Z7 (show zcj ⟨hd,qs,ans,auth,extra,he,ed⟩=(zdy hd&&((he||zcd ed)&&(decide (qs.length≤65535∧ans.length≤65535∧auth.length≤65535∧extra.length+(if he=true then 1 else 0)≤65535)&&(qs.all (fun q=>may q.name)&&(ans.all zac&&(auth.all zac&&extra.all zac))))))by unfold zcj;simp only[Bool.and_assoc])
 have HQ:=Z7 (fun V (hV:Ext w V)=>zxh ed o V (bL.ext hV))
 have yn:=Z7 (fun V (hV:Ext w V)=>zla 0 (.slice aA ans.length ac) ans V (hg.ext hV) ⟨aA,ac,rfl,tq,tu,yk.ext hV⟩ tv)
 have yo:=Z7 (fun V (hV:Ext w V)=>zla 0 (.slice uA auth.length uc) auth V (hg.ext hV) ⟨uA,uc,rfl,lL,kp,yl.ext hV⟩ nX)
 have De:=Z7 (fun V (hV:Ext w V)=>zla 0 (.slice xA extra.length xc) extra V (hg.ext hV) ⟨xA,xc,rfl,i6,gY,ym.ext hV⟩ nY)
 clear r0 pD hb ho hc bL tv nX nY gF tq tu yk lL kp yl i6 gY ym;go_enter Tryz.func34,Tryz.ntmps34;go_upto_region 1 with fail
 rw[←ar];clear ar;go_wp2_with(first
  |(refine za9 (by rfl) 30 (.tmp 10) rfl w.heap.size 0 rfl [.int .u16 hd.id,.bool hd.qr,.int .u8 hd.op,.bool hd.aa,.bool hd.tc,.bool hd.rd,.bool hd.ra,.bool hd.z,.bool hd.ad,.bool hd.cd,.int .u8 hd.code] (zcx (K0.out X0 (Z5 _)) 0 11) _ Tryz.underlying30 rfl (by kernel_rfl) ?_)
  |fail)
 refine(HF.out _ aP).mono ?_;rintro e w1 ⟨h1,ae⟩;have co:Ext w w1:=aP.trans ae
 by_cases bB:zdy hd=true
 rotate_left
 ·rw[if_neg bB]at h1;subst h1;have hF:zcj ⟨hd,qs,ans,auth,extra,he,ed⟩=false:=by rw[HM.out,Bool.eq_false_iff.2 bB];rfl
  have eo:=Z7 hF
  clear hF;go_wp2_with fail;go_ret;exact⟨by rw[eo.out];rfl,co⟩
 rw[if_pos bB]at h1;subst h1;have r1:=K0.out _ ae
 have p15:w1.cell? ⟨w.heap.size,15,none⟩=some (.bool he):=cell_of_row w1 _ 15 _ _ _ r1
 by_cases jK:he=true
 rotate_left
 ·have nZ:he=false:=Bool.eq_false_iff.2 jK
  rw[nZ]at p15;by_cases hz:zcd ed=true
  rotate_left
  ·have ft:zcd ed=false:=Bool.eq_false_iff.2 hz
   have hF:zcj ⟨hd,qs,ans,auth,extra,he,ed⟩=false:=by rw[HM.out,nZ,ft];simp
   have eo:=Z7 hF
   clear hF hz nZ jK;go_wp2_with(first
    |(refine za9 (by rfl) 43 (.tmp 21) rfl w.heap.size 16 rfl [.int .u16 ed.size,.int .u8 ed.ext,.int .u8 ed.ver,.int .u16 ed.flags,o] (zcx r1 16 5) _ Tryz.underlying43 rfl (by kernel_rfl) ?_)
    |fail)
   refine(HQ.out _ co).mono ?_;rintro e w2 ⟨rfl,ah⟩;rw[ft];go_wp2_with fail;go_ret;exact⟨by rw[eo.out];rfl,co.trans ah⟩
  have Ah:=Z7 (show(he||zcd ed)=true by rw[nZ,hz];rfl)
  clear jK nZ;go_wp2_with(first
   |(refine za9 (by rfl) 43 (.tmp 21) rfl w.heap.size 16 rfl [.int .u16 ed.size,.int .u8 ed.ext,.int .u8 ed.ver,.int .u16 ed.flags,o] (zcx r1 16 5) _ Tryz.underlying43 rfl (by kernel_rfl) ?_)
   |fail)
  refine(HQ.out _ co).mono ?_;rintro e wz ⟨rfl,ah⟩;rw[hz];have kr:Ext w wz:=co.trans ah
  have gi:Ext X0 wz:=ae.trans ah
  have rz:=K0.out _ gi
  clear hz r1 p15 HQ ah;go_wp2_with(first
   |(refine wpList_load_row (by rfl) 45 (.tmp 1) rfl w.heap.size rfl 45 _ _ _ rz Tryz.underlying45 rfl (by kernel_rfl) ?_)
   |fail)
  refine(HC.out _).mono ?_;rintro e w3 ⟨rfl,ao⟩;go_wp2_with fail
  go_loopw [2,6,29] (fun s2 _ s29 wr=>∃k:Nat,k≤4∧s2=.bool false∧s29=.int .i64 k∧zgy qs.length ans.length auth.length N4 k∧Ext w3 wr) (fun _ _ s29 _=>4 - (intOf s29).toNat)
  case atStart=>exact⟨0,by omega,rfl,rfl,trivial,Z5 _⟩
  case round=>
   obtain⟨k,hk,rfl,rfl,db,aN⟩:=hrel
   obtain⟨wo,rfl⟩:∃wo:World,wo=wr:=⟨_,rfl⟩
   rcases Nat.lt_or_ge k 4 with hk8|hk8
   ·rcases(by omega:k=0∨k=1∨k=2∨k=3)with rfl|rfl|rfl|rfl
    ·have cD:((0:Nat):Int)=0:=rfl
     have dY:∀V:World,(Instr.index 130 (.agg #[.int .i64 (qs.length:Int),.int .i64 (ans.length:Int),.int .i64 (auth.length:Int),.int .i64 (N4:Int)]) (.int .i64 0)).run Tryz.prog V=.ok (.int .i64 (qs.length:Int)) V:=fun _=>by kernel_rfl
     rcases Nat.lt_or_ge 65535 qs.length with hb|hb
     ·have ab:(65535:Int)<(qs.length:Int):=by omega
      have hF:zcj ⟨hd,qs,ans,auth,extra,he,ed⟩=false:=by
       rw[HM.out,H3.out];have eV:decide (qs.length≤65535∧ans.length≤65535∧auth.length≤65535∧N4≤65535)=false:=by rw[decide_eq_false_iff_not];omega
       rw[eV];simp
      have eo:=Z7 hF
      clear hF hb;go_wp2_with fail;go_ret;exact⟨by rw[eo.out];rfl,kr.trans (ao.trans aN)⟩
     ·have ab:¬((65535:Int)<(qs.length:Int)):=by omega
      have HK:=Z7 (show zgy qs.length ans.length auth.length N4 1 from hb)
      clear hb db;go_wp2_with fail;go_roundw
      case rel=>exact⟨1,by omega,rfl,by go_num,HK.out,aN⟩
      case measure=>simp[intOf]
    ·have cD:((1:Nat):Int)=1:=rfl
     have dY:∀V:World,(Instr.index 130 (.agg #[.int .i64 (qs.length:Int),.int .i64 (ans.length:Int),.int .i64 (auth.length:Int),.int .i64 (N4:Int)]) (.int .i64 1)).run Tryz.prog V=.ok (.int .i64 (ans.length:Int)) V:=fun _=>by kernel_rfl
     rcases Nat.lt_or_ge 65535 ans.length with hb|hb
     ·have ab:(65535:Int)<(ans.length:Int):=by omega
      have hF:zcj ⟨hd,qs,ans,auth,extra,he,ed⟩=false:=by
       rw[HM.out,H3.out];have eV:decide (qs.length≤65535∧ans.length≤65535∧auth.length≤65535∧N4≤65535)=false:=by rw[decide_eq_false_iff_not];omega
       rw[eV];simp
      have eo:=Z7 hF
      clear hF hb;go_wp2_with fail;go_ret;exact⟨by rw[eo.out];rfl,kr.trans (ao.trans aN)⟩
     ·have ab:¬((65535:Int)<(ans.length:Int)):=by omega
      have HK:=Z7 (show zgy qs.length ans.length auth.length N4 2 from⟨db,hb⟩)
      clear hb db;go_wp2_with fail;go_roundw
      case rel=>exact⟨2,by omega,rfl,by go_num,HK.out,aN⟩
      case measure=>simp[intOf]
    ·have cD:((2:Nat):Int)=2:=rfl
     have dY:∀V:World,(Instr.index 130 (.agg #[.int .i64 (qs.length:Int),.int .i64 (ans.length:Int),.int .i64 (auth.length:Int),.int .i64 (N4:Int)]) (.int .i64 2)).run Tryz.prog V=.ok (.int .i64 (auth.length:Int)) V:=fun _=>by kernel_rfl
     rcases Nat.lt_or_ge 65535 auth.length with hb|hb
     ·have ab:(65535:Int)<(auth.length:Int):=by omega
      have hF:zcj ⟨hd,qs,ans,auth,extra,he,ed⟩=false:=by
       rw[HM.out,H3.out];have eV:decide (qs.length≤65535∧ans.length≤65535∧auth.length≤65535∧N4≤65535)=false:=by rw[decide_eq_false_iff_not];omega
       rw[eV];simp
      have eo:=Z7 hF
      clear hF hb;go_wp2_with fail;go_ret;exact⟨by rw[eo.out];rfl,kr.trans (ao.trans aN)⟩
     ·have ab:¬((65535:Int)<(auth.length:Int)):=by omega
      have HK:=Z7 (show zgy qs.length ans.length auth.length N4 3 from⟨db.1,db.2,hb⟩)
      clear hb db;go_wp2_with fail;go_roundw
      case rel=>exact⟨3,by omega,rfl,by go_num,HK.out,aN⟩
      case measure=>simp[intOf]
    ·have cD:((3:Nat):Int)=3:=rfl
     have dY:∀V:World,(Instr.index 130 (.agg #[.int .i64 (qs.length:Int),.int .i64 (ans.length:Int),.int .i64 (auth.length:Int),.int .i64 (N4:Int)]) (.int .i64 3)).run Tryz.prog V=.ok (.int .i64 (N4:Int)) V:=fun _=>by kernel_rfl
     rcases Nat.lt_or_ge 65535 N4 with hb|hb
     ·have ab:(65535:Int)<(N4:Int):=by omega
      have hF:zcj ⟨hd,qs,ans,auth,extra,he,ed⟩=false:=by
       rw[HM.out,H3.out];have eV:decide (qs.length≤65535∧ans.length≤65535∧auth.length≤65535∧N4≤65535)=false:=by rw[decide_eq_false_iff_not];omega
       rw[eV];simp
      have eo:=Z7 hF
      clear hF hb;go_wp2_with fail;go_ret;exact⟨by rw[eo.out];rfl,kr.trans (ao.trans aN)⟩
     ·have ab:¬((65535:Int)<(N4:Int)):=by omega
      have HK:=Z7 (show zgy qs.length ans.length auth.length N4 4 from⟨db.1,db.2.1,db.2.2,hb⟩)
      clear hb db;go_wp2_with fail;go_roundw
      case rel=>exact⟨4,by omega,rfl,by go_num,HK.out,aN⟩
      case measure=>simp[intOf]
   ·obtain rfl:k=4:=by omega
    have cD:((4:Nat):Int)=4:=rfl
    have jh:qs.length≤65535∧ans.length≤65535∧auth.length≤65535∧N4≤65535:=db
    have n7:=Z7 (show zcj ⟨hd,qs,ans,auth,extra,he,ed⟩=(qs.all (fun q=>may q.name)&&(ans.all zac&&(auth.all zac&&extra.all zac)))by rw[HM.out,H3.out,bB,Ah.out,decide_eq_true jh];simp)
    have yp:qs.length≤65535:=jh.1
    clear db jh HM H3 HC;have cI:Ext w wo:=kr.trans (ao.trans aN)
    have ro:=K0.out _ (gi.trans (ao.trans aN))
    have p11:wo.cell? ⟨w.heap.size,11,none⟩=some (.slice qA qs.length qc):=cell_of_row wo _ 11 _ _ _ ro
    have qX:Ext X0 wo:=gi.trans (ao.trans aN)
    clear aN ao ro rz kr gi ae co;obtain⟨R,hR⟩:∃R,R=qs.all (fun q=>may q.name):=⟨_,rfl⟩
    rw[←hR]at n7;have HR:=Z7 hR
    clear hR;go_wp2_with fail
    (try simp only[cD])
    clear cD hk8 hk
    go_loopw [2,8,38] (fun s2 _ s38 wr=>∃k:Nat,k≤qs.length∧s2=.bool false∧s38=.int .i64 k∧(qs.drop k).all (fun q=>may q.name)=R∧Ext wo wr) (fun _ _ s38 _=>qs.length - (intOf s38).toNat)
    case atStart=>exact⟨0,Nat.zero_le _,rfl,rfl,by rw[HR.out,List.drop_zero],Z5 _⟩
    case round=>
     obtain⟨k,hk,rfl,rfl,aX,hE⟩:=hrel
     obtain⟨wp,rfl⟩:∃wp:World,wp=wr:=⟨_,rfl⟩
     by_cases ab:k<qs.length
     ·obtain⟨b,off,rfl,_,az,hc⟩:=(fT.ext (cI.trans hE)).2 (by omega)
      obtain⟨x0,x1,x2⟩:=zdt hc k qs[k] (Z3 ab)
      have hx:=x9 qs[k] (List.getElem_mem ab)
      rw[List.drop_eq_getElem_cons ab,List.all_cons]at aX;generalize qs[k]=q at*;obtain⟨nm,ty,cl⟩:=q
      dsimp only at*;have HN:=Z7 (fun V=>zbe nm V (by unfold maxLen;omega))
      have di:=Z7 aX
      generalize may nm=bn at*;clear hc aX;have cz:(k:Int)<(qs.length:Int):=by omega
      have cW:(0:Int)≤(k:Int):=by omega
      rcases bn with _|_
      ·have hF:R=false:=by rw[←di.out];rfl
       have eo:=Z7 (show zcj ⟨hd,qs,ans,auth,extra,he,ed⟩=false by rw[n7.out,hF];rfl)
       clear hF;go_wp2_with fail;refine(HN.out _).mono ?_;rintro e w4 ⟨rfl,rfl⟩;go_wp2_with fail;go_ret;exact⟨by rw[eo.out];rfl,cI.trans (hE.trans xt)⟩
      ·have HF:=Z7 (show(qs.drop (k+1)).all (fun q=>may q.name)=R by rw[←di.out];rfl)
       go_wp2_with fail;refine(HN.out _).mono ?_;rintro e w4 ⟨rfl,rfl⟩;go_wp2_with fail;go_roundw
       case rel=>exact⟨k+1,by omega,rfl,by go_num,HF.out,hE.trans xt⟩
       case measure=>simp[intOf];omega
     ·have e1:qs.drop k=[]:=List.drop_of_length_le (by omega)
      rw[e1]at aX;have hF:R=true:=by rw[←aX];rfl
      have n9:=Z7 (show zcj ⟨hd,qs,ans,auth,extra,he,ed⟩=(ans.all zac&&(auth.all zac&&extra.all zac))by rw[n7.out,hF];rfl)
      have cS:¬((k:Int)<(qs.length:Int)):=by omega
      clear aX e1 n7 HR p11;have pE:Ext X0 wp:=qX.trans hE
      have gj:Ext w wp:=cI.trans hE
      have rp:=K0.out _ pE
      have p12:wp.cell? ⟨w.heap.size,12,none⟩=some (.slice aA ans.length ac):=cell_of_row wp _ 12 _ _ _ rp
      clear rp;generalize ans.all zac=ba at*;generalize auth.all zac=bu at*;generalize extra.all zac=bx at*;rcases ba with _|_
      ·go_wp2_with fail;refine(yn.out _ gj).mono ?_;rintro e w5 ⟨rfl,am⟩;go_wp2_with fail;go_ret;exact⟨by rw[n9.out];rfl,gj.trans am⟩
      ·go_wp2_with fail;refine(yn.out _ gj).mono ?_;rintro e w5 ⟨rfl,am⟩;have p13:w5.cell? ⟨w.heap.size,13,none⟩=some (.slice uA auth.length uc):=cell_of_row w5 _ 13 _ _ _ (K0.out _ (pE.trans am))
       rcases bu with _|_
       ·go_wp2_with fail;refine(yo.out _ (gj.trans am)).mono ?_;rintro e w6 ⟨rfl,aw⟩;go_wp2_with fail;go_ret;exact⟨by rw[n9.out];rfl,gj.trans (am.trans aw)⟩
       ·go_wp2_with fail;refine(yo.out _ (gj.trans am)).mono ?_;rintro e w6 ⟨rfl,aw⟩;have p14:w6.cell? ⟨w.heap.size,14,none⟩=some (.slice xA extra.length xc):=cell_of_row w6 _ 14 _ _ _ (K0.out _ (pE.trans (am.trans aw)))
        go_wp2_with fail;refine(De.out _ (gj.trans (am.trans aw))).mono ?_;rintro e w7 ⟨rfl,aS⟩;go_wp2_with fail;go_ret;exact⟨by rw[n9.out];cases bx<;>rfl,gj.trans (am.trans (aw.trans aS))⟩
 have Ah:=Z7 (show(he||zcd ed)=true by rw[jK];rfl)
 rw[jK]at p15;clear jK;obtain⟨wz,oa⟩:∃wz,wz=w1:=⟨_,rfl⟩
 have kr:Ext w wz:=oa▸co
 have gi:Ext X0 wz:=oa▸ae
 have rz:=K0.out _ gi
 rw[←oa]at p15 ⊢;clear r1 HQ oa;go_wp2_with(first
  |(refine wpList_load_row (by rfl) 45 (.tmp 1) rfl w.heap.size rfl 45 _ _ _ rz Tryz.underlying45 rfl (by kernel_rfl) ?_)
  |fail)
 refine(HC.out _).mono ?_;rintro e w3 ⟨rfl,ao⟩;go_wp2_with fail
 go_loopw [2,6,29] (fun s2 _ s29 wr=>∃k:Nat,k≤4∧s2=.bool false∧s29=.int .i64 k∧zgy qs.length ans.length auth.length N4 k∧Ext w3 wr) (fun _ _ s29 _=>4 - (intOf s29).toNat)
 case atStart=>exact⟨0,by omega,rfl,rfl,trivial,Z5 _⟩
 case round=>
  obtain⟨k,hk,rfl,rfl,db,aN⟩:=hrel
  obtain⟨wo,rfl⟩:∃wo:World,wo=wr:=⟨_,rfl⟩
  rcases Nat.lt_or_ge k 4 with hk8|hk8
  ·rcases(by omega:k=0∨k=1∨k=2∨k=3)with rfl|rfl|rfl|rfl
   ·have cD:((0:Nat):Int)=0:=rfl
    have dY:∀V:World,(Instr.index 130 (.agg #[.int .i64 (qs.length:Int),.int .i64 (ans.length:Int),.int .i64 (auth.length:Int),.int .i64 (N4:Int)]) (.int .i64 0)).run Tryz.prog V=.ok (.int .i64 (qs.length:Int)) V:=fun _=>by kernel_rfl
    rcases Nat.lt_or_ge 65535 qs.length with hb|hb
    ·have ab:(65535:Int)<(qs.length:Int):=by omega
     have hF:zcj ⟨hd,qs,ans,auth,extra,he,ed⟩=false:=by
      rw[HM.out,H3.out];have eV:decide (qs.length≤65535∧ans.length≤65535∧auth.length≤65535∧N4≤65535)=false:=by rw[decide_eq_false_iff_not];omega
      rw[eV];simp
     have eo:=Z7 hF
     clear hF hb;go_wp2_with fail;go_ret;exact⟨by rw[eo.out];rfl,kr.trans (ao.trans aN)⟩
    ·have ab:¬((65535:Int)<(qs.length:Int)):=by omega
     have HK:=Z7 (show zgy qs.length ans.length auth.length N4 1 from hb)
     clear hb db;go_wp2_with fail;go_roundw
     case rel=>exact⟨1,by omega,rfl,by go_num,HK.out,aN⟩
     case measure=>simp[intOf]
   ·have cD:((1:Nat):Int)=1:=rfl
    have dY:∀V:World,(Instr.index 130 (.agg #[.int .i64 (qs.length:Int),.int .i64 (ans.length:Int),.int .i64 (auth.length:Int),.int .i64 (N4:Int)]) (.int .i64 1)).run Tryz.prog V=.ok (.int .i64 (ans.length:Int)) V:=fun _=>by kernel_rfl
    rcases Nat.lt_or_ge 65535 ans.length with hb|hb
    ·have ab:(65535:Int)<(ans.length:Int):=by omega
     have hF:zcj ⟨hd,qs,ans,auth,extra,he,ed⟩=false:=by
      rw[HM.out,H3.out];have eV:decide (qs.length≤65535∧ans.length≤65535∧auth.length≤65535∧N4≤65535)=false:=by rw[decide_eq_false_iff_not];omega
      rw[eV];simp
     have eo:=Z7 hF
     clear hF hb;go_wp2_with fail;go_ret;exact⟨by rw[eo.out];rfl,kr.trans (ao.trans aN)⟩
    ·have ab:¬((65535:Int)<(ans.length:Int)):=by omega
     have HK:=Z7 (show zgy qs.length ans.length auth.length N4 2 from⟨db,hb⟩)
     clear hb db;go_wp2_with fail;go_roundw
     case rel=>exact⟨2,by omega,rfl,by go_num,HK.out,aN⟩
     case measure=>simp[intOf]
   ·have cD:((2:Nat):Int)=2:=rfl
    have dY:∀V:World,(Instr.index 130 (.agg #[.int .i64 (qs.length:Int),.int .i64 (ans.length:Int),.int .i64 (auth.length:Int),.int .i64 (N4:Int)]) (.int .i64 2)).run Tryz.prog V=.ok (.int .i64 (auth.length:Int)) V:=fun _=>by kernel_rfl
    rcases Nat.lt_or_ge 65535 auth.length with hb|hb
    ·have ab:(65535:Int)<(auth.length:Int):=by omega
     have hF:zcj ⟨hd,qs,ans,auth,extra,he,ed⟩=false:=by
      rw[HM.out,H3.out];have eV:decide (qs.length≤65535∧ans.length≤65535∧auth.length≤65535∧N4≤65535)=false:=by rw[decide_eq_false_iff_not];omega
      rw[eV];simp
     have eo:=Z7 hF
     clear hF hb;go_wp2_with fail;go_ret;exact⟨by rw[eo.out];rfl,kr.trans (ao.trans aN)⟩
    ·have ab:¬((65535:Int)<(auth.length:Int)):=by omega
     have HK:=Z7 (show zgy qs.length ans.length auth.length N4 3 from⟨db.1,db.2,hb⟩)
     clear hb db;go_wp2_with fail;go_roundw
     case rel=>exact⟨3,by omega,rfl,by go_num,HK.out,aN⟩
     case measure=>simp[intOf]
   ·have cD:((3:Nat):Int)=3:=rfl
    have dY:∀V:World,(Instr.index 130 (.agg #[.int .i64 (qs.length:Int),.int .i64 (ans.length:Int),.int .i64 (auth.length:Int),.int .i64 (N4:Int)]) (.int .i64 3)).run Tryz.prog V=.ok (.int .i64 (N4:Int)) V:=fun _=>by kernel_rfl
    rcases Nat.lt_or_ge 65535 N4 with hb|hb
    ·have ab:(65535:Int)<(N4:Int):=by omega
     have hF:zcj ⟨hd,qs,ans,auth,extra,he,ed⟩=false:=by
      rw[HM.out,H3.out];have eV:decide (qs.length≤65535∧ans.length≤65535∧auth.length≤65535∧N4≤65535)=false:=by rw[decide_eq_false_iff_not];omega
      rw[eV];simp
     have eo:=Z7 hF
     clear hF hb;go_wp2_with fail;go_ret;exact⟨by rw[eo.out];rfl,kr.trans (ao.trans aN)⟩
    ·have ab:¬((65535:Int)<(N4:Int)):=by omega
     have HK:=Z7 (show zgy qs.length ans.length auth.length N4 4 from⟨db.1,db.2.1,db.2.2,hb⟩)
     clear hb db;go_wp2_with fail;go_roundw
     case rel=>exact⟨4,by omega,rfl,by go_num,HK.out,aN⟩
     case measure=>simp[intOf]
  ·obtain rfl:k=4:=by omega
   have cD:((4:Nat):Int)=4:=rfl
   have jh:qs.length≤65535∧ans.length≤65535∧auth.length≤65535∧N4≤65535:=db
   have n7:=Z7 (show zcj ⟨hd,qs,ans,auth,extra,he,ed⟩=(qs.all (fun q=>may q.name)&&(ans.all zac&&(auth.all zac&&extra.all zac)))by rw[HM.out,H3.out,bB,Ah.out,decide_eq_true jh];simp)
   have yp:qs.length≤65535:=jh.1
   clear db jh HM H3 HC;have cI:Ext w wo:=kr.trans (ao.trans aN)
   have ro:=K0.out _ (gi.trans (ao.trans aN))
   have p11:wo.cell? ⟨w.heap.size,11,none⟩=some (.slice qA qs.length qc):=cell_of_row wo _ 11 _ _ _ ro
   have qX:Ext X0 wo:=gi.trans (ao.trans aN)
   clear aN ao ro rz kr gi ae co;obtain⟨R,hR⟩:∃R,R=qs.all (fun q=>may q.name):=⟨_,rfl⟩
   rw[←hR]at n7;have HR:=Z7 hR
   clear hR;go_wp2_with fail
   (try simp only[cD])
   clear cD hk8 hk
   go_loopw [2,8,38] (fun s2 _ s38 wr=>∃k:Nat,k≤qs.length∧s2=.bool false∧s38=.int .i64 k∧(qs.drop k).all (fun q=>may q.name)=R∧Ext wo wr) (fun _ _ s38 _=>qs.length - (intOf s38).toNat)
   case atStart=>exact⟨0,Nat.zero_le _,rfl,rfl,by rw[HR.out,List.drop_zero],Z5 _⟩
   case round=>
    obtain⟨k,hk,rfl,rfl,aX,hE⟩:=hrel
    obtain⟨wp,rfl⟩:∃wp:World,wp=wr:=⟨_,rfl⟩
    by_cases ab:k<qs.length
    ·obtain⟨b,off,rfl,_,az,hc⟩:=(fT.ext (cI.trans hE)).2 (by omega)
     obtain⟨x0,x1,x2⟩:=zdt hc k qs[k] (Z3 ab)
     have hx:=x9 qs[k] (List.getElem_mem ab)
     rw[List.drop_eq_getElem_cons ab,List.all_cons]at aX;generalize qs[k]=q at*;obtain⟨nm,ty,cl⟩:=q
     dsimp only at*;have HN:=Z7 (fun V=>zbe nm V (by unfold maxLen;omega))
     have di:=Z7 aX
     generalize may nm=bn at*;clear hc aX;have cz:(k:Int)<(qs.length:Int):=by omega
     have cW:(0:Int)≤(k:Int):=by omega
     rcases bn with _|_
     ·have hF:R=false:=by rw[←di.out];rfl
      have eo:=Z7 (show zcj ⟨hd,qs,ans,auth,extra,he,ed⟩=false by rw[n7.out,hF];rfl)
      clear hF;go_wp2_with fail;refine(HN.out _).mono ?_;rintro e w4 ⟨rfl,rfl⟩;go_wp2_with fail;go_ret;exact⟨by rw[eo.out];rfl,cI.trans (hE.trans xt)⟩
     ·have HF:=Z7 (show(qs.drop (k+1)).all (fun q=>may q.name)=R by rw[←di.out];rfl)
      go_wp2_with fail;refine(HN.out _).mono ?_;rintro e w4 ⟨rfl,rfl⟩;go_wp2_with fail;go_roundw
      case rel=>exact⟨k+1,by omega,rfl,by go_num,HF.out,hE.trans xt⟩
      case measure=>simp[intOf];omega
    ·have e1:qs.drop k=[]:=List.drop_of_length_le (by omega)
     rw[e1]at aX;have hF:R=true:=by rw[←aX];rfl
     have n9:=Z7 (show zcj ⟨hd,qs,ans,auth,extra,he,ed⟩=(ans.all zac&&(auth.all zac&&extra.all zac))by rw[n7.out,hF];rfl)
     have cS:¬((k:Int)<(qs.length:Int)):=by omega
     clear aX e1 n7 HR p11;have pE:Ext X0 wp:=qX.trans hE
     have gj:Ext w wp:=cI.trans hE
     have rp:=K0.out _ pE
     have p12:wp.cell? ⟨w.heap.size,12,none⟩=some (.slice aA ans.length ac):=cell_of_row wp _ 12 _ _ _ rp
     clear rp;generalize ans.all zac=ba at*;generalize auth.all zac=bu at*;generalize extra.all zac=bx at*;rcases ba with _|_
     ·go_wp2_with fail;refine(yn.out _ gj).mono ?_;rintro e w5 ⟨rfl,am⟩;go_wp2_with fail;go_ret;exact⟨by rw[n9.out];rfl,gj.trans am⟩
     ·go_wp2_with fail;refine(yn.out _ gj).mono ?_;rintro e w5 ⟨rfl,am⟩;have p13:w5.cell? ⟨w.heap.size,13,none⟩=some (.slice uA auth.length uc):=cell_of_row w5 _ 13 _ _ _ (K0.out _ (pE.trans am))
      rcases bu with _|_
      ·go_wp2_with fail;refine(yo.out _ (gj.trans am)).mono ?_;rintro e w6 ⟨rfl,aw⟩;go_wp2_with fail;go_ret;exact⟨by rw[n9.out];rfl,gj.trans (am.trans aw)⟩
      ·go_wp2_with fail;refine(yo.out _ (gj.trans am)).mono ?_;rintro e w6 ⟨rfl,aw⟩;have p14:w6.cell? ⟨w.heap.size,14,none⟩=some (.slice xA extra.length xc):=cell_of_row w6 _ 14 _ _ _ (K0.out _ (pE.trans (am.trans aw)))
       go_wp2_with fail;refine(De.out _ (gj.trans (am.trans aw))).mono ?_;rintro e w7 ⟨rfl,aS⟩;go_wp2_with fail;go_ret;exact⟨by rw[n9.out];cases bx<;>rfl,gj.trans (am.trans (aw.trans aS))⟩
section
variable {P : Program}
theorem zce {o:Oper} {a:Act} {w:World} (ty:TypeId) (x:Operand) (ho:o.op=.load ty x)
 (b off:Nat) (hx:a.eval x=.pointer (some ⟨b,off,none⟩)) (l:List Value) (hl:∀j v,l[j]? =some v→w.cell? ⟨b,off+j,none⟩=some v) (d:TypeDesc)
 (hu:P.underlying ty=some d) (hd:(match d with| .struct _| .array _ _=>true|_=>false)=true) (hi:(P.info? ty).map (·.size)=some l.length):
 (execOp a.eval o).run P w=.ok (.value (.agg l.toArray)) w:=by
 have lK:(loadVar ty ⟨b,off,none⟩).run P w=.ok (.agg l.toArray) w:=by
  have lD:(loadCells ⟨b,off,none⟩ l.length).run P w=.ok l.toArray w:=
   run_loadCells_list (P:=P) w ⟨b,off,none⟩ l (fun j v hv=>by rw[zdv];exact hl j v hv)
  cases hq:P.info? ty with
  |none=>simp[hq]at hi
  |some i=>
   have hs:i.size=l.length:=by simpa[hq]using hi
   have qW:(isAgg ty).run P w=.ok true w:=by
    unfold isAgg;rw[Sem.run_bind,run_underlying hu w];cases d<;>simp_all
   simp[loadVar,Sem.run_bind,qW,sizeOf,typeInfo,hq,hs,lD]
 unfold execOp;simp only[ho,hx,Instr.loadAt,Instr.sureAddr,Sem.run_bind,Sem.run_pure,Result.andThen_ok,lK]
end
theorem zba {w:World} {b:Nat} {cs:Array Value} {t:TypeId} {fr:Nat×Nat} (h:w.heap[b]? =some (.cells cs t fr)):∀j v,cs.toList[j]? =some v→w.cell? ⟨b,0+j,none⟩=some v:=fun j v hj=>by
 rw[cell_of_row w b _ cs t fr h,Nat.zero_add];simpa using hj
theorem zyb (a:Act) (d:Option Tmp) (v:Value):(a.put d v).defers=a.defers:=by cases d<;>rfl
def PanicQ (R:Ending→World→Prop) (Q:Exit→Act→World→Prop):Exit→Act→World→Prop
 | .panic c,a,w=>a.defers=[]∧R (.panicked c) w
 |e,a,w=>Q e a w
theorem PanicQ.normal {R:Ending→World→Prop} {Q:Exit→Act→World→Prop} {a:Act} {w:World} (h:Q .normal a w):PanicQ R Q .normal a w:=h
theorem zol {P:Program} {id:Nat} {ops:Array Oper} {b:Bool} {R:Ending→World→Prop} {Q:Exit→Act→World→Prop} {a:Act} {w:World} (h:(Code.region id ops b).wp P (PanicQ R Q) a w)
 (hi:∀c a w,a.defers=[]→R (.panicked c) w→Q (.panic c) a w):(Code.region id ops b).wp P Q a w:=
 Code.wp_mono (fun e a w h=>by
  cases e<;>first|exact h|exact hi _ _ _ h.1 h.2) h
theorem zDn {B:List UInt8} {T:Tab} {q:QD} {l:List QD} {R:List UInt8×Tab} (h:(B++(zaj quW B.length (q::l) T).1,(zaj quW B.length (q::l) T).2)=R):
 ∃N:List UInt8×Tab,N=putN true true B.length q.name T∧
  (B++N.1++(two q.typ.toNat++two q.cls.toNat)++(zaj quW (B++N.1++(two q.typ.toNat++two q.cls.toNat)).length l N.2).1,(zaj quW (B++N.1++(two q.typ.toNat++two q.cls.toNat)).length l N.2).2)=R:=by
 refine⟨_,rfl,?_⟩;rw[←h];simp only[zaj,quW,Z6,List.append_assoc,Nat.add_assoc]
theorem zx6 {m:MsgD} {R A1 A2 A3:List UInt8×Tab} (hR:R=(zfp m++(zaj quW 12 m.qs []).1,(zaj quW 12 m.qs []).2)) (hl:(zfp m).length=12) (h1:A1=zaj zb9 R.1.length m.ans R.2) (h2:A2=zaj zb9 (R.1++A1.1).length m.auth A1.2)
 (h3:A3=zaj zb9 (R.1++A1.1++A2.1).length m.extra A2.2):(zbf m).1=R.1++A1.1++A2.1++A3.1++(if m.he then zhr m.ed else[]):=by
 have FG:R.1.length=12+(zaj quW 12 m.qs []).1.length:=by rw[hR];simp only[Z6,hl]
 have yq:R.2=(zaj quW 12 m.qs []).2:=by rw[hR]
 unfold zbf;dsimp only;rw[zfo,zfo,←FG,←yq];rw[Z6]at h2;rw[Z6,Z6,Nat.add_assoc]at h3;have dh:R.1=zfp m++(zaj quW 12 m.qs []).1:=by rw[hR]
 rw[←dh];simp only[Z6,←h1,←h2]at h3 ⊢;simp only[←h1,←h2,←h3,List.append_assoc]
def zqp (m:MsgD) (w:World) (e:Ending) (w':World):Prop:=
 ((zau m=0∧∃A c,e=.returned (.slice A (zbf m).1.length c)∧Rd w' w.heap.size 1 A (zbf m).1.length ((zbf m).1.map U8))∨(zau m≠0∧e=zgb (zau m)))∧Ext w w'
theorem zps (m:MsgD) (q a u x o:Value) (w:World) (hg:Laid w) (hb:BitsAt w) (cF:m.wf) (h:Msg7 w m q a u x o):
 Calls Tryz.prog 47 #[zfd m.hd q a u x m.he m.ed o] w (zqp m w):=by
 have qY:=Z7 (fun V (hV:Ext w V)=>zE7 m q a u x o V (hg.ext hV) (hb.ext hV) cF.op cF.code (h.ext hV))
 have h7:=h
 obtain⟨⟨qA,qc,rfl,dx,eS,fT⟩,⟨aA,ac,rfl,tq,tu,yk⟩,⟨uA,uc,rfl,lL,kp,yl⟩,⟨xA,xc,rfl,i6,gY,ym⟩,bL,x9,tv,nX,nY,gF⟩:=h
 obtain⟨hd,qs,ans,auth,extra,he,ed⟩:=m
 dsimp only at*;obtain⟨X0,ar⟩:∃X0,X0=w.alloc (.cells #[.int .u16 hd.id,.bool hd.qr,.int .u8 hd.op,.bool hd.aa,.bool hd.tc,.bool hd.rd,.bool hd.ra,.bool hd.z,.bool hd.ad,.bool hd.cd,.int .u8 hd.code,.slice qA qs.length qc,.slice aA ans.length ac,.slice uA auth.length uc,.slice xA extra.length xc,.bool he,.int .u16 ed.size,.int .u8 ed.ext,.int .u8 ed.ver,.int .u16 ed.flags,o] 45):=⟨_,rfl⟩
 have aP:Ext w X0:=by rw[ar];exact(Z5 _).alloc _
 have r0:X0.heap[w.heap.size]? =some (.cells #[.int .u16 hd.id,.bool hd.qr,.int .u8 hd.op,.bool hd.aa,.bool hd.tc,.bool hd.rd,.bool hd.ra,.bool hd.z,.bool hd.ad,.bool hd.cd,.int .u8 hd.code,.slice qA qs.length qc,.slice aA ans.length ac,.slice uA auth.length uc,.slice xA extra.length xc,.bool he,.int .u16 ed.size,.int .u8 ed.ext,.int .u8 ed.ver,.int .u16 ed.flags,o] 45):=by rw[ar];exact heap_alloc_new _ _
 have z0:=(Z9 r0)
 have K0:=Z7 (fun V (hV:Ext X0 V)=>(hV.block _ z0).trans r0)
 have K1:=Z7 (fun V (hV:KeptY X0 V)=>hV.2 _ _ _ _ (by decide) (by decide) (by decide) r0)
 have r0x:=K0.out X0 (Z5 _)
 clear r0;go_enter Tryz.func47,Tryz.ntmps47;go_upto_region 1 with fail
 rw[←ar];clear ar;by_cases hm:zcj ⟨hd,qs,ans,auth,extra,he,ed⟩=true
 rotate_left
 ·have hF:zau ⟨hd,qs,ans,auth,extra,he,ed⟩=3:=by unfold zau;rw[if_neg hm]
  have Ai:zcj ⟨hd,qs,ans,auth,extra,he,ed⟩=false:=Bool.eq_false_iff.2 hm
  have eo:=Z7 hF
  have n9:=Z7 (fun V=>zcs 3 (by omega) V)
  clear hF hm;go_wp2_with(first
   |(refine wpList_load_row (by rfl) 45 (.tmp 1) rfl w.heap.size rfl 45 _ _ _ r0x Tryz.underlying45 rfl (by kernel_rfl) ?_)
   |fail)
  refine(qY.out _ aP).mono ?_;rintro e w1 ⟨rfl,ae⟩;rw[Ai];go_wp2_with fail;refine(n9.out _).mono ?_;rintro e w2 ⟨rfl,rfl⟩;go_wp2_with fail;refine⟨rfl,.inr ⟨by rw[eo.out];omega,by rw[eo.out]⟩,aP.trans ae⟩
 go_wp2_with(first
  |(refine wpList_load_row (by rfl) 45 (.tmp 1) rfl w.heap.size rfl 45 _ _ _ r0x Tryz.underlying45 rfl (by kernel_rfl) ?_)
  |fail)
 refine(qY.out _ aP).mono ?_;rintro e w1 ⟨rfl,ae⟩;rw[hm];have co:Ext w w1:=aP.trans ae
 have Aj:=Z7 hm
 have iE:=hm
 unfold zcj at iE;simp only[Bool.and_eq_true,decide_eq_true_eq]at iE;obtain⟨⟨⟨⟨⟨⟨bB,te⟩,jL,cD,ew,ei⟩,FH⟩,FI⟩,FJ⟩,tw⟩:=iE
 obtain⟨N4,pD⟩:∃N4,N4=extra.length+if he then 1 else 0:=⟨_,rfl⟩
 have HC:=Z7 (fun V=>znr hd qA aA uA xA qs.length ans.length auth.length extra.length qc ac uc xc he ed o V gF)
 rw[←pD]at HC ei;have FK:=Z7 pD
 have HW:=Z7 (fun V (hV:Ext w V)=>zxs hd qs.length ans.length auth.length N4 V (hb.ext hV) cF.op cF.code cF.id bB jL cD ew ei)
 clear hm pD r0x qY;go_upto_region 3 with fail
 refine wp_region_noPanic ?_;refine za6 (S:=(fun V=>V.heap[w.heap.size]? =some (.cells #[.int .u16 hd.id,.bool hd.qr,.int .u8 hd.op,.bool hd.aa,.bool hd.tc,.bool hd.rd,.bool hd.ra,.bool hd.z,.bool hd.ad,.bool hd.cd,.int .u8 hd.code,.slice qA qs.length qc,.slice aA ans.length ac,.slice uA auth.length uc,.slice xA extra.length xc,.bool he,.int .u16 ed.size,.int .u8 ed.ext,.int .u8 ed.ver,.int .u16 ed.flags,o] 45))) (.take 0 (.take 1 (.take 2 (.run 3 (.run 4 (.take 5 (.take 6 (.take 7 (.take 8 (.take 9 (.done))))))))))) (by kernel_rfl) (by kernel_rfl) (fun _ _ _ _ _ h=>h) (K0.out _ (ae.trans ((Z5 w1).drew))) ?_
 repeat((with_reducible refine za7 ?_);first
  |(refine za4 (v:=?_) (by rfl) (by rfl) ?_ ?_;rotate_left;(focus(intro V hV;refine zce 30 (.tmp 17) ?_ w.heap.size 0 ?_ [.int .u16 hd.id,.bool hd.qr,.int .u8 hd.op,.bool hd.aa,.bool hd.tc,.bool hd.rd,.bool hd.ra,.bool hd.z,.bool hd.ad,.bool hd.cd,.int .u8 hd.code] (zcx hV 0 11) _ Tryz.underlying30 ?_ ?_;(focus rfl);(focus rfl);(focus rfl);(focus kernel_rfl)));(try simp only[ap]))
  |(refine za4 (v:=?_) (by rfl) (by rfl) ?_ ?_;rotate_left;(focus(intro V hV;refine zce 45 (.tmp 1) ?_ w.heap.size 0 ?_ _ (zba hV) _ Tryz.underlying45 ?_ ?_;(focus rfl);(focus rfl);(focus rfl);(focus kernel_rfl)));(try simp only[ap]))
  |(refine za4 (v:=?_) (by rfl) (by rfl) ?_ ?_;rotate_left;(focus(intro V hV;(try dsimp only at hV);(go_simp<;>with_reducible rfl)));(try simp only[ap]))
  |(refine zaf (by rfl) (by rfl) ?_;(try simp only[ap])))
 refine za5 (by rfl) (fun K hK=>?_)
 go_simp;refine(HC.out _).mono ?_;rintro e w2 ⟨rfl,ah⟩;have dq:Ext w1 w2:=Ext.trans ((Z5 w1).drew) ah
 refine hK.out _ _ ?_ ?_
 ·exact K0.out _ (ae.trans dq)
 clear hK K
 (try simp only[ap])
 refine za5 (by rfl) (fun K hK=>?_)
 go_simp;refine(HW.out w2 (co.trans dq)).mono ?_;rintro e w3 ⟨rfl,ao⟩;have Ak:Ext w1 w3:=dq.trans ao
 refine hK.out _ _ ?_ ?_
 ·exact K0.out _ (ae.trans Ak)
 clear hK K
 (try simp only[ap])
 repeat((with_reducible refine za7 ?_);first
  |(refine za4 (v:=?_) (by rfl) (by rfl) ?_ ?_;rotate_left;(focus(intro V hV;refine zce 30 (.tmp 17) ?_ w.heap.size 0 ?_ [.int .u16 hd.id,.bool hd.qr,.int .u8 hd.op,.bool hd.aa,.bool hd.tc,.bool hd.rd,.bool hd.ra,.bool hd.z,.bool hd.ad,.bool hd.cd,.int .u8 hd.code] (zcx hV 0 11) _ Tryz.underlying30 ?_ ?_;(focus rfl);(focus rfl);(focus rfl);(focus kernel_rfl)));(try simp only[ap]))
  |(refine za4 (v:=?_) (by rfl) (by rfl) ?_ ?_;rotate_left;(focus(intro V hV;refine zce 45 (.tmp 1) ?_ w.heap.size 0 ?_ _ (zba hV) _ Tryz.underlying45 ?_ ?_;(focus rfl);(focus rfl);(focus rfl);(focus kernel_rfl)));(try simp only[ap]))
  |(refine za4 (v:=?_) (by rfl) (by rfl) ?_ ?_;rotate_left;(focus(intro V hV;(try dsimp only at hV);(go_simp<;>with_reducible rfl)));(try simp only[ap]))
  |(refine zaf (by rfl) (by rfl) ?_;(try simp only[ap])))
 refine zag ?_;refine NoPanic.normal ?_;go_wp2_with fail;refine(zdb w3).mono ?_;rintro e _ ⟨rfl,rfl⟩;have ie:Ext X0 w3:=ae.trans Ak
 obtain⟨H,hH⟩:∃H,H=two hd.id.toNat++(two (zcf hd)++zhk qs.length ans.length auth.length N4 4):=⟨_,rfl⟩
 rw[←hH];have oe:=Z7 (show H=zfp ⟨hd,qs,ans,auth,extra,he,ed⟩by rw[hH];simp only[zfp,zhk,FK.out,List.append_assoc])
 have kX:H.length=12:=by rw[hH];simp only[Z6,zah,zhk]
 have ZX:=Z7 kX
 clear hH kX HC HW dq Ak ah ao;have lM:w.heap.size≤w3.heap.size:=(aP.trans ie).size
 obtain⟨C,cap,gD,mP⟩:=zr9 w3 w.heap.size H lM (by rw[ZX.out];omega)
 obtain⟨W4,bE⟩:∃W,W=w3.drew.alloc (.cells C 5 (C.size,C.size+1)):=⟨_,rfl⟩
 rw[←bE]at gD mP;have aL:Ext w3 W4:=by rw[bE];exact((Z5 _).drew).alloc _
 have ZW:OwnZ W4 w.heap.size (some ⟨w3.heap.size,0,none⟩) H.length cap (H.map U8):=mP
 clear bE mP;go_wp2_with fail;refine(zCl W4).mono ?_;rintro e w5 ⟨rfl,kY⟩;have jG:TabAt w5 w.heap.size W4.heap.size []:=by rw[kY];exact TabAt.new W4 _ (Z2 lM aL.size)
 have am:Ext W4 w5:=by rw[kY];exact(Z5 _).alloc _
 clear kY;go_upto_region 6 with fail
 obtain⟨W6,gf⟩:∃W6,W6=w5.alloc (.cells #[.slice (some ⟨w3.heap.size,0,none⟩) H.length cap,.pointer (some ⟨W4.heap.size,0,none⟩)] 173):=⟨_,rfl⟩
 have aw:Ext w5 W6:=by rw[gf];exact(Z5 _).alloc _
 have va:WrAt W6 w.heap.size w5.heap.size H []:=⟨_,cap,W4.heap.size,by rw[gf];exact heap_alloc_new _ _,Z2 lM (aL.trans am).size,(ZW.ext am).ext aw,jG.ext aw⟩
 rw[←gf];obtain⟨g,nU⟩:∃g,g=w5.heap.size:=⟨_,rfl⟩
 rw[←nU]at va ⊢;have vb:Ext X0 W6:=ie.trans (aL.trans (am.trans aw))
 have vd:KeptY X0 W6:=KeptY.ext vb
 have kZ:Ext w W6:=aP.trans vb
 have r6:=K1.out _ vd
 have p11:W6.cell? ⟨w.heap.size,11,none⟩=some (.slice qA qs.length qc):=cell_of_row W6 _ 11 _ _ _ r6
 clear gf nU gD ZW jG aL am aw ie r6;obtain⟨R,hR⟩:∃R,R=(H++(zaj quW H.length qs []).1,(zaj quW H.length qs []).2):=⟨_,rfl⟩
 have HR:=Z7 hR
 have fU:=Z7 (show 65535<R.1.length→zau ⟨hd,qs,ans,auth,extra,he,ed⟩=5 from fun h=>by
  have h2:R.1.length≤(zbf ⟨hd,qs,ans,auth,extra,he,ed⟩).1.length:=by
   rw[hR,ZX.out,oe.out];unfold zbf;simp only[Z6];omega
  unfold zau;rw[if_pos Aj.out,if_pos (by omega)])
 clear hR;go_wp2_with fail
 go_loopw [7,33] (fun _ s33 wr=>∃(k:Nat) (B:List UInt8) (T:Tab),s33=.int .i64 k∧k≤qs.length∧WrAt wr w.heap.size g B T∧B.length≤65535∧(B++(zaj quW B.length (qs.drop k) T).1,(zaj quW B.length (qs.drop k) T).2)=R∧Ext w wr∧KeptY X0 wr) (fun _ s33 _=>qs.length - (intOf s33).toNat)
 case atStart=>exact⟨0,H,[],rfl,Nat.zero_le _,va,by rw[ZX.out];omega,by rw[HR.out,List.drop_zero],kZ,vd⟩
 case round=>
  obtain⟨k,B,T,rfl,hk,hW,hB,dh,hE,Al⟩:=hrel
  obtain⟨wo,rfl⟩:∃wo:World,wo=wr:=⟨_,rfl⟩
  clear p11;by_cases ab:k<qs.length
  ·obtain⟨b,off,rfl,_,az,hc⟩:=(fT.ext hE).2 (by omega)
   obtain⟨x0,x1,x2⟩:=zdt hc k qs[k] (Z3 ab)
   have vg:=cF.qs qs[k] (List.getElem_mem ab)
   have FL:may qs[k].name=true:=List.all_eq_true.1 FH qs[k] (List.getElem_mem ab)
   rw[List.drop_eq_getElem_cons ab]at dh;generalize qs[k]=q at*;obtain⟨nm,ty,cl⟩:=q
   obtain⟨FM,FN⟩:=vg
   dsimp only at*;obtain⟨N,hN,nM⟩:=zDn dh
   have kj:=Z7 nM
   have mW:=Z7 (show(B++N.1).length≤R.1.length∧(B++N.1++(two ty.toNat++two cl.toNat)).length≤R.1.length by
    rw[←nM];simp only[Z6];omega)
   clear hc nM dh;have cz:(k:Int)<(qs.length:Int):=by omega
   have cW:(0:Int)≤(k:Int):=by omega
   go_upto_region 9 with fail
   obtain⟨W,nQ⟩:∃W,W=wo.alloc (.cells #[S nm,.int .u16 ty,.int .u16 cl] 32):=⟨_,rfl⟩
   have ga:Ext wo W:=by rw[nQ];exact(Z5 _).alloc _
   have a5:W.heap[wo.heap.size]? =some (.cells #[S nm,.int .u16 ty,.int .u16 cl] 32):=by rw[nQ];exact heap_alloc_new _ _
   rw[←nQ];clear nQ x0 x1 x2;have nR:=Z7 (fun V (hV:KeptY W V)=>hV.2 _ _ _ _ (by decide) (by decide) (by decide) a5)
   have k0:W.cell? ⟨wo.heap.size,0,none⟩=some (S nm):=by simp[World.cell?,a5]
   have HN:=Z7 (zqm w.heap.size g B nm T W (hW.ext ga) hB FL)
   dsimp only at hN;rw[←hN]at HN;clear a5 hN;go_wp2_with fail;refine HN.out.mono ?_;rintro e w2 ⟨⟨l2,rfl,eF,eD⟩|⟨l2,rfl⟩,dX⟩;rotate_left
   ·go_wp2_with fail;exact⟨rfl,.inr ⟨by rw[fU.out (by have:=mW.out;(try dsimp only at l2);omega)];omega,by rw[fU.out (by have:=mW.out;(try dsimp only at l2);omega)]⟩,(hE.trans ga).then dX (Z4 _)⟩
   have cq:Ext w w2:=(hE.trans ga).then dX (Z4 _)
   have og:KeptY X0 w2:=(Al.trans (KeptY.ext ga)).trans eD
   have jg:=Z7 (show ∀V,KeptY w2 V→V.cell? ⟨wo.heap.size,1,none⟩=some (.int .u16 ty)∧V.cell? ⟨wo.heap.size,2,none⟩=some (.int .u16 cl)from fun V hV=>by
    have h1:=nR.out V (eD.trans hV)
    exact⟨by simp[World.cell?,h1],by simp[World.cell?,h1]⟩)
   have kW:=Z7 (fun V=>zdw 0 none 0 [] ty V (Rd.nil _ _ _ _) (by simp) FM)
   have ka:=Z7 (fun(A:Option Addr) (c lo':Nat) (V:World) (hr:Rd V lo' 1 A (two ty.toNat).length ((two ty.toNat).map U8))=>zdw lo' A c (two ty.toNat) cl V hr (by rw[zah];omega) FN)
   (try dsimp only at l2 eF)
   clear k0 HN;go_upto_region 10 with fail
   refine zol (R:=zqp ⟨hd,qs,ans,auth,extra,he,ed⟩ w) ?_ (fun c a w h1 h2=>⟨h1,h2⟩)
   refine za6 (S:=(fun V=>V.cell? ⟨wo.heap.size,1,none⟩=some (.int .u16 ty)∧V.cell? ⟨wo.heap.size,2,none⟩=some (.int .u16 cl))) (.take 0 (.take 1 (.take 3 (.take 4 (.run 2 (.run 5 (.run 6 (.done)))))))) (by kernel_rfl) (by kernel_rfl) (fun o v c a w h=>⟨(zyb a o.dst v).symm.trans h.1,h.2⟩) (jg.out _ (KeptY.ext ((Z5 w2).drew))) ?_
   repeat((with_reducible refine za7 ?_);first
    |(refine za4 (v:=?_) (by rfl) (by rfl) ?_ ?_;rotate_left;(focus(intro V hV;(try dsimp only at hV);(go_simp<;>with_reducible rfl)));(try simp only[ap]))
    |(refine zaf (by rfl) (by rfl) ?_;(try simp only[ap])))
   refine za5 (by rfl) (fun K hK=>?_)
   go_simp;refine(kW.out _).mono ?_;rintro e w9 ⟨A9,c9,rfl,nT,ej⟩;have Df:Ext w2 w9:=Ext.trans ((Z5 w2).drew) ej
   have vh:=nT.rd
   simp only[List.nil_append]at vh ⊢;refine hK.out _ _ ?_ ?_
   ·exact jg.out _ (KeptY.ext Df)
   clear hK K
   (try simp only[ap])
   refine za5 (by rfl) (fun K hK=>?_)
   go_simp;refine(ka.out _ _ _ _ vh).mono ?_;rintro e w10 ⟨A10,c10,rfl,Am,bg⟩;have qZ:Ext w2 w10:=Df.trans bg
   refine hK.out _ _ ?_ ?_
   ·exact jg.out _ (KeptY.ext qZ)
   clear hK K
   (try simp only[ap])
   refine za5 (by rfl) (fun K hK=>?_)
   go_simp;refine(ziy w.heap.size g w9.heap.size (B++N.1) (two ty.toNat++two cl.toNat) N.2 A10 c10 w10 (eF.ext qZ) Am.rd l2).mono ?_;rintro e w11 CO;have dq:=CO.after qZ (by have:=eF.lo;omega)
   obtain⟨⟨l11,rfl,lN,q5⟩|⟨l11,rfl⟩,lO⟩:=dq
   rotate_left
   ·exact⟨rfl,.inr ⟨by rw[fU.out (by have:=mW.out;(try dsimp only at l11);omega)];omega,by rw[fU.out (by have:=mW.out;(try dsimp only at l11);omega)]⟩,cq.then lO (Z4 _)⟩
   refine hK.out _ _ ?_ ?_
   ·exact jg.out _ q5
   clear hK K
   (try simp only[ap])
   refine zag ?_;refine PanicQ.normal ?_;go_wp2_with fail;go_roundw
   case rel=>exact⟨k+1,_,_,by go_num,by omega,lN,l11,kj.out,cq.then lO (Z4 _),og.trans q5⟩
   case measure=>simp[intOf];omega
  ·have e1:qs.drop k=[]:=List.drop_of_length_le (by omega)
   rw[e1]at dh;have An:R=(B,T):=by rw[←dh];simp[zaj]
   have cS:¬((k:Int)<(qs.length:Int)):=by omega
   clear dh e1 hk;obtain⟨A1,Ao⟩:∃A1,A1=zaj zb9 B.length ans T:=⟨_,rfl⟩
   obtain⟨A2,Ap⟩:∃A2,A2=zaj zb9 (B++A1.1).length auth A1.2:=⟨_,rfl⟩
   obtain⟨A3,Aq⟩:∃A3,A3=zaj zb9 (B++A1.1++A2.1).length extra A2.2:=⟨_,rfl⟩
   have dN:=Z7 (show(zbf ⟨hd,qs,ans,auth,extra,he,ed⟩).1=B++A1.1++A2.1++A3.1++(if he then zhr ed else[])by
    have h1:R.1=B:=by rw[An]
    have h2:R.2=T:=by rw[An]
    have:=zx6 (m:=⟨hd,qs,ans,auth,extra,he,ed⟩) (R:=R) (A1:=A1) (A2:=A2) (A3:=A3) (by rw[HR.out,ZX.out,oe.out]) (by rw[←oe.out,ZX.out]) (by rw[h1,h2];exact Ao) (by rw[h1];exact Ap) (by rw[h1];exact Aq)
    rw[this,h1])
   have fU:=Z7 (show ∀n,n≤(zbf ⟨hd,qs,ans,auth,extra,he,ed⟩).1.length→65535<n→zau ⟨hd,qs,ans,auth,extra,he,ed⟩=5 from fun n h1 h2=>by
    unfold zau;rw[if_pos Aj.out,if_pos (by omega)])
   have vi:=Z7 (show(zbf ⟨hd,qs,ans,auth,extra,he,ed⟩).1.length≤65535→zau ⟨hd,qs,ans,auth,extra,he,ed⟩=0 from fun h=>by
    unfold zau;rw[if_pos Aj.out,if_neg (by omega)])
   have Ar:=Z7 (zlb w w.heap.size g B T (.slice aA ans.length ac) ans wo hg hW hB ⟨aA,ac,rfl,tq,tu,yk⟩ hE (Z4 _) (fun r hr=>⟨List.all_eq_true.1 FI r hr,cF.ans r hr,(tv r hr).2⟩))
   have As:=Z7 (fun(V:World) (hV:Ext w V) (h:WrAt V w.heap.size g (B++A1.1) A1.2) (hl:(B++A1.1).length≤65535)=>zlb w w.heap.size g (B++A1.1) A1.2 (.slice uA auth.length uc) auth V hg h hl ⟨uA,uc,rfl,lL,kp,yl⟩ hV (Z4 _) (fun r hr=>⟨List.all_eq_true.1 FJ r hr,cF.auth r hr,(nX r hr).2⟩))
   have Au:=Z7 (fun(V:World) (hV:Ext w V) (h:WrAt V w.heap.size g (B++A1.1++A2.1) A2.2) (hl:(B++A1.1++A2.1).length≤65535)=>zlb w w.heap.size g (B++A1.1++A2.1) A2.2 (.slice xA extra.length xc) extra V hg h hl ⟨xA,xc,rfl,i6,gY,ym⟩ hV (Z4 _) (fun r hr=>⟨List.all_eq_true.1 tw r hr,cF.extra r hr,(nY r hr).2⟩))
   rw[←Ao]at Ar;rw[←Ap]at As;rw[←Aq]at Au;have ro:=K1.out _ Al
   have p12:wo.cell? ⟨w.heap.size,12,none⟩=some (.slice aA ans.length ac):=cell_of_row wo _ 12 _ _ _ ro
   clear Ao Ap Aq An HR ro;go_wp2_with fail;refine Ar.out.mono ?_;rintro e w2 ⟨⟨l2,rfl,eF,eD⟩|⟨l2,rfl⟩,dX⟩;rotate_left
   ·go_wp2_with fail;exact⟨rfl,.inr ⟨by rw[fU.out _ (by rw[dN.out];simp only[Z6];omega) l2];omega,by rw[fU.out _ (by rw[dN.out];simp only[Z6];omega) l2]⟩,hE.then dX (Z4 _)⟩
   have cq:Ext w w2:=hE.then dX (Z4 _)
   have og:KeptY X0 w2:=Al.trans eD
   dsimp only at l2 eF;have p13:w2.cell? ⟨w.heap.size,13,none⟩=some (.slice uA auth.length uc):=cell_of_row w2 _ 13 _ _ _ (K1.out _ og)
   go_wp2_with fail;refine(As.out w2 cq eF l2).mono ?_;rintro e w3' ⟨⟨l3,rfl,bK,zK⟩|⟨l3,rfl⟩,iR⟩;rotate_left
   ·go_wp2_with fail;exact⟨rfl,.inr ⟨by rw[fU.out _ (by rw[dN.out];simp only[Z6];omega) l3];omega,by rw[fU.out _ (by rw[dN.out];simp only[Z6];omega) l3]⟩,cq.then iR (Z4 _)⟩
   have fX:Ext w w3':=cq.then iR (Z4 _)
   have vj:KeptY X0 w3':=og.trans zK
   dsimp only at l3 bK;have p14:w3'.cell? ⟨w.heap.size,14,none⟩=some (.slice xA extra.length xc):=cell_of_row w3' _ 14 _ _ _ (K1.out _ vj)
   go_wp2_with fail;refine(Au.out w3' fX bK l3).mono ?_;rintro e w4 ⟨⟨l4,rfl,bE,zM⟩|⟨l4,rfl⟩,iP⟩;rotate_left
   ·go_wp2_with fail;exact⟨rfl,.inr ⟨by rw[fU.out _ (by rw[dN.out];simp only[Z6];omega) l4];omega,by rw[fU.out _ (by rw[dN.out];simp only[Z6];omega) l4]⟩,fX.then iP (Z4 _)⟩
   have fx:Ext w w4:=fX.then iP (Z4 _)
   have Av:KeptY X0 w4:=vj.trans zM
   dsimp only at l4 bE;obtain⟨D,hD⟩:∃D,D=B++A1.1++A2.1++A3.1:=⟨_,rfl⟩
   rw[←hD]at dN l4 bE;have r4:=K1.out _ Av
   have p15:w4.cell? ⟨w.heap.size,15,none⟩=some (.bool he):=cell_of_row w4 _ 15 _ _ _ r4
   clear hD Ar As Au p12 p13 p14;by_cases jK:he=true
   rotate_left
   ·have nZ:he=false:=Bool.eq_false_iff.2 jK
    rw[nZ]at p15;have gm:=Z7 (show(zbf ⟨hd,qs,ans,auth,extra,he,ed⟩).1=D by rw[dN.out,nZ];simp)
    have gJ:=bE
    obtain⟨A,c,tp,hh,ak,ho,ht⟩:=gJ
    have q0:w4.cell? ⟨g,0,none⟩=some (.slice A D.length c):=cell_of_row w4 _ 0 _ _ _ hh
    clear jK nZ r4 ht hh;go_wp2_with fail;go_ret;exact⟨.inl ⟨vi.out (by rw[gm.out];exact l4),A,c,by rw[gm.out];rfl,by rw[gm.out];exact ho.rd⟩,fx⟩
   rw[jK]at p15;have gm:=Z7 (show(zbf ⟨hd,qs,ans,auth,extra,he,ed⟩).1=D++[0]++(two 41++two ed.size.toNat++zdp (zd3 ed))++two (zfy ed).length++zfy ed by rw[dN.out,if_pos jK];simp only[zhr,List.append_assoc])
   have FO:=Z7 (zxi ed o w4 (bL.ext fx) cF.ext cF.ver cF.flags cF.opts)
   clear jK dN;go_upto_region 16 with fail
   go_wp2_with(first
    |(refine za9 (by rfl) 43 (.tmp 60) rfl w.heap.size 16 rfl [.int .u16 ed.size,.int .u8 ed.ext,.int .u8 ed.ver,.int .u16 ed.flags,o] (zcx r4 16 5) _ Tryz.underlying43 rfl (by kernel_rfl) ?_)
    |fail)
   refine FO.out.mono ?_;rintro e w5 ⟨h5,am⟩;have q6:Ext w w5:=fx.trans am
   by_cases tz:65535<(zfy ed).length
   ·rw[if_pos tz]at h5;subst h5;have yr:=Z7 (zcs 5 (by omega) w5)
    have HF:=Z7 (fU.out _ (show(zfy ed).length≤_ by rw[gm.out];simp only[Z6];omega) tz)
    clear tz r4 p15;go_wp2_with fail;refine yr.out.mono ?_;rintro e _ ⟨rfl,rfl⟩;go_wp2_with fail;exact⟨rfl,.inr ⟨by rw[HF.out];omega,by rw[HF.out]⟩,q6⟩
   rw[if_neg tz]at h5;subst h5;have Dg:=Z7 tz
   have mY:=Z7 (zdb w5)
   have gJ:=bE.ext am
   obtain⟨T4,Dh⟩:∃T4,T4=A3.2:=⟨_,rfl⟩
   rw[←Dh]at gJ;have Di:=Z7 (zqm w.heap.size g D [0] T4 w5 gJ l4 (by decide))
   rw[zm5]at Di;obtain⟨OW,Dj⟩:∃OW,OW=zfy ed:=⟨_,rfl⟩
   rw[←Dj]at gm Dg ⊢;have vm:OW.length≤65535:=by have:=Dg.out;omega
   have qD:=Z7 vm
   clear Dh tz vm Dj r4 p15 bE;go_wp2_with fail;refine mY.out.mono ?_;rintro e _ ⟨rfl,rfl⟩;go_wp2_with fail;refine Di.out.mono ?_;rintro e w6 ⟨⟨l6,rfl,gf,lG⟩|⟨l6,rfl⟩,qT⟩;rotate_left
   ·go_wp2_with fail;exact⟨rfl,.inr ⟨by rw[fU.out _ (by rw[gm.out];simp only[Z6,List.length_cons,List.length_nil];omega) l6];omega,by rw[fU.out _ (by rw[gm.out];simp only[Z6,List.length_cons,List.length_nil];omega) l6]⟩,q6.then qT (Z4 _)⟩
   have lP:Ext w w6:=q6.then qT (Z4 _)
   dsimp only at l6 gf;have cV:0≤((zd3 ed:Nat):Int)∧((zd3 ed:Nat):Int)≤4294967295:=by
    have h1:=cF.ext;have h2:=cF.ver;have h3:=cF.flags
    unfold zd3;dsimp only at h1 h2 h3;omega
   have nV:=Z7 (zup w.heap.size g (D++[0]) T4 41 ed.size ((zd3 ed:Nat):Int) w6 gf l6 (by omega) cF.size cV)
   rw[Int.toNat_natCast,show(41:Int).toNat=41 from rfl]at nV
   obtain⟨FX,Dk⟩:∃FX,FX=two 41++two ed.size.toNat++zdp (zd3 ed):=⟨_,rfl⟩
   rw[←Dk]at nV gm;clear Dk cV;go_wp2_with fail;refine nV.out.mono ?_;rintro e w7 ⟨⟨l7,rfl,tj,yg⟩|⟨l7,rfl⟩,pz⟩;rotate_left
   ·go_wp2_with fail;exact⟨rfl,.inr ⟨by rw[fU.out _ (by rw[gm.out];simp only[Z6,List.length_cons,List.length_nil];omega) l7];omega,by rw[fU.out _ (by rw[gm.out];simp only[Z6,List.length_cons,List.length_nil];omega) l7]⟩,lP.then pz (Z4 _)⟩
   have oh:Ext w w7:=lP.then pz (Z4 _)
   dsimp only at l7 tj;have fP:IntKind.u16.wrap (OW.length:Int)=(OW.length:Int):=by have:=qD.out;show(OW.length:Int)%65536=_;omega
   have lB:OW.length≤140737488355328:=by have:=qD.out;omega
   have kW:=Z7 (zdw 0 none 0 [] (OW.length:Int) w7 (Rd.nil _ _ _ _) (by simp) (by have:=qD.out;omega))
   rw[List.nil_append,Int.toNat_natCast]at kW;go_wp2_with fail;refine kW.out.mono ?_;rintro e w8 ⟨A8,c8,rfl,ia,dj⟩;have FQ:=Z7 (ziy w.heap.size g w7.heap.size (D++[0]++FX) (two OW.length) T4 A8 c8 w8 (tj.ext dj) ia.rd l7)
   go_wp2_with fail;refine FQ.out.mono ?_;rintro e w9 ⟨⟨l9,rfl,Dl,Aw⟩|⟨l9,rfl⟩,vq⟩;rotate_left
   ·go_wp2_with fail;exact⟨rfl,.inr ⟨by rw[fU.out _ (by rw[gm.out];simp only[Z6,List.length_cons,List.length_nil];omega) l9];omega,by rw[fU.out _ (by rw[gm.out];simp only[Z6,List.length_cons,List.length_nil];omega) l9]⟩,(oh.trans dj).then vq (Z4 _)⟩
   have q7:Ext w w9:=(oh.trans dj).then vq (Z4 _)
   dsimp only at l9 Dl;obtain⟨C,cap,gD,mP⟩:=zr9 w9 w.heap.size OW q7.size (by have:=qD.out;omega)
   obtain⟨W10,q8⟩:∃W,W=w9.drew.alloc (.cells C 5 (C.size,C.size+1)):=⟨_,rfl⟩
   rw[←q8]at gD mP;have bg:Ext w9 W10:=by rw[q8];exact((Z5 _).drew).alloc _
   have Ax:=Z7 (ziy w.heap.size g w.heap.size (D++[0]++FX++two OW.length) OW T4 (some ⟨w9.heap.size,0,none⟩) cap W10 (Dl.ext bg) mP.rd l9)
   clear q8 mP;go_wp2_with fail;refine Ax.out.mono ?_;rintro e w11 ⟨⟨l11,rfl,lN,q5⟩|⟨l11,rfl⟩,lO⟩;rotate_left
   ·go_wp2_with fail;exact⟨rfl,.inr ⟨by rw[fU.out _ (by rw[gm.out];omega) l11];omega,by rw[fU.out _ (by rw[gm.out];omega) l11]⟩,(q7.trans bg).then lO (Z4 _)⟩
   have vr:Ext w w11:=(q7.trans bg).then lO (Z4 _)
   dsimp only at l11 lN;obtain⟨Z,hZ⟩:∃Z,Z=D++[0]++FX++two OW.length++OW:=⟨_,rfl⟩
   rw[←hZ]at gm l11 lN;obtain⟨A,c,tp,hh,ak,ho,ht⟩:=lN
   have q0:w11.cell? ⟨g,0,none⟩=some (.slice A Z.length c):=cell_of_row w11 _ 0 _ _ _ hh
   clear hh ht gD hZ;go_wp2_with fail;go_ret;exact⟨.inl ⟨vi.out (by rw[gm.out];exact l11),A,c,by rw[gm.out];rfl,by rw[gm.out];exact ho.rd⟩,vr⟩
theorem zBs (V:World):(Instr.typeAssert .nilIface 20 94 true).run Tryz.prog V=.ok (.tuple #[.agg #[.int .i64 0],.bool false]) V:=by
 first
 |kernel_rfl
 |(simp[Instr.typeAssert,go_sem];done)
theorem zuf (k:Nat) (V:World):(Instr.typeAssert (zjs k) 20 94 true).run Tryz.prog V=.ok (.tuple #[.agg #[.int .i64 k],.bool true]) V:=by
 first
 |kernel_rfl
 |(simp[Instr.typeAssert,go_sem];done)
theorem zCq (p q:Addr) (w:World):
 CallsD Tryz.prog 46 #[.pointer (some p),.pointer (some q)] .returning w fun e u' w'=>e=.returned (.tuple #[])∧u'=.returning∧Ext w w':=by
 have q9:=zBs
 refine callsD_of_wpS Tryz.func46 rfl fun c₀ cs hu=>?_
 apply wpS_seq;apply wpS_region;simp[wpOpsS,go_sem,recoverD,hu,q9,Tryz.ntmps46,Exit.thenS];apply wpS_seq;apply wpS_region;simp[wpOpsS,go_sem,Exit.thenS,Array.replicate];refine wpS_cond (t:=false) (by simp[Act.eval,Array.replicate]) ?_
 simp only[Bool.false_eq_true,if_false];refine wpS_of_wp (wp_skip ?_);have hE:Ext w (w.alloc (.cells #[.int .i64 0] 94)):=(Z5 _).alloc _
 cases c₀
 simp_all [bodyPostS,results,Tryz.results46]
theorem zxj (p q k:Nat) (x y:Value) (older:List PanicEntry) (w:World) (hp:w.cell? ⟨p,0,none⟩=some x) (hq:w.cell? ⟨q,0,none⟩=some y) (fp:w.frozen? ⟨p,0,none⟩=false) (fq:w.frozen? ⟨q,0,none⟩=false) (Dm:p≠q) (pF:p<w.heap.size) (vv:q<w.heap.size):
 CallsD Tryz.prog 46 #[.pointer (some ⟨p,0,none⟩),.pointer (some ⟨q,0,none⟩)] (.panicking ({v:=zjs k,recovered:=false}::older)) w fun e u' w'=>
  e=.returned (.tuple #[])∧u'=.panicking ({v:=zjs k,recovered:=true}::older)∧∃V,Ext w V∧w'=(V.setCell ⟨p,0,none⟩ (S [])).setCell ⟨q,0,none⟩ (.int .i64 k):=by
 have q9:=zuf k
 refine callsD_of_wpS Tryz.func46 rfl fun c₀ cs hu=>?_
 apply wpS_seq;apply wpS_region;simp[wpOpsS,go_sem,recoverD,hu,q9,Tryz.ntmps46,Exit.thenS];apply wpS_seq;apply wpS_region;simp[wpOpsS,go_sem,Exit.thenS,Array.replicate];refine wpS_cond (t:=true) (by simp[Act.eval,Array.replicate]) ?_
 simp only[if_true];refine wpS_of_wp ?_;obtain⟨V,hV⟩:∃V,V=w.alloc (.cells #[.int .i64 (k:Int)] 94):=⟨_,rfl⟩
 have hE:Ext w V:=by rw[hV];exact(Z5 _).alloc _
 have hz:V.cell? ⟨w.heap.size,0,none⟩=some (.int .i64 (k:Int)):=by rw[hV];simp
 have pg:V.cell? ⟨p,0,none⟩=some x:=(hE.cell (p:=⟨p,0,none⟩) pF).trans hp
 have dx:V.cell? ⟨q,0,none⟩=some y:=(hE.cell (p:=⟨q,0,none⟩) vv).trans hq
 have fp1:V.frozen? ⟨p,0,none⟩=false:=(hE.frozen (p:=⟨p,0,none⟩) pF).trans fp
 have fq1:V.frozen? ⟨q,0,none⟩=false:=(hE.frozen (p:=⟨q,0,none⟩) vv).trans fq
 have np:¬p=w.heap.size:=by omega
 have np':¬w.heap.size=p:=by omega
 have nq:¬q=p:=fun h=>Dm h.symm
 rw[←hV];clear hV hp hq fp fq;go_region;refine⟨rfl,_,rfl,.tuple #[],?_,rfl,rfl,V.drew,hE.drew,rfl⟩;simp[results,Tryz.results46]
theorem zu8 {V:World} {p:Nat} {a b:Value} {t t2:TypeId} {m m2:Nat×Nat} (h1:V.heap[p]? =some (.cells #[a] t m)) (h2:V.heap[p+1]? =some (.cells #[b] t2 m2)) (x y:Value):
 ((V.setCell ⟨p,0,none⟩ x).setCell ⟨p+1,0,none⟩ y).cell? ⟨p,0,none⟩=some x∧((V.setCell ⟨p,0,none⟩ x).setCell ⟨p+1,0,none⟩ y).cell? ⟨p+1,0,none⟩=some y:=by
 have e1:=(Below.heap_setCell (V.setCell ⟨p,0,none⟩ x) ⟨p+1,0,none⟩ y p (by dsimp only;omega)).trans (za2 h1 0 x)
 have e2:=za2 ((Below.heap_setCell V ⟨p,0,none⟩ x (p+1) (by dsimp only;omega)).trans h2) 0 y
 exact⟨by simp[World.cell?,e1],by simp[World.cell?,e2]⟩
def zml (m:MsgD) (w:World) (e:Ending) (w':World):Prop:=e=.returned (.tuple #[S (zec m),.int .i64 (zau m:Nat)])∧Ext w w'
theorem zjn (m:MsgD) (q a u x o:Value) (w:World) (hg:Laid w) (hb:BitsAt w) (cF:m.wf) (h:Msg7 w m q a u x o):
 Calls Tryz.prog 20 #[zfd m.hd q a u x m.he m.ed o] w (zml m w):=by
 obtain⟨X0,ar⟩:∃X0,X0=w.alloc (.cells (mrw m q a u x o) 45):=⟨_,rfl⟩
 have Ai:∀(fn:Fn) (first cap:Array Value) (w:World),(Instr.makeFunc fn first cap).run Tryz.prog w=.ok (.func fn first cap) w:=fun _ _ _ _=>rfl
 have HW:=Z7 (fun V (hV:Ext w V)=>zps m q a u x o V (hg.ext hV) (hb.ext hV) cF (h.ext hV))
 go_enter_defers Tryz.func20,Tryz.ntmps20
 go_upto_region 1 with fail
 rw[←ar];have aP:Ext w X0:=by rw[ar];exact(Z5 _).alloc _
 have Ay:X0.heap.size=w.heap.size+1:=by rw[ar];simp
 have r0:X0.heap[w.heap.size]? =some (.cells (mrw m q a u x o) 45):=by rw[ar];exact heap_alloc_new _ _
 clear ar;obtain⟨X2,iS⟩:∃X2,X2=(X0.alloc (.cells #[.string ⟨#[]⟩] 9)).alloc (.cells #[.int .i64 0] 46):=⟨_,rfl⟩
 rw[←iS];obtain⟨p,hp⟩:∃p,p=w.heap.size+1:=⟨_,rfl⟩
 have ic:Ext X0 X2:=by rw[iS];exact((Z5 _).alloc _).alloc _
 have rp:X2.heap[p]? =some (.cells #[.string ⟨#[]⟩] 9):=by
  rw[iS,hp,←Ay];have h1:((X0.alloc (.cells #[.string ⟨#[]⟩] 9))).heap[X0.heap.size]? =some (.cells #[.string ⟨#[]⟩] 9):=heap_alloc_new _ _
  rw[heap_alloc_old _ _ (Z9 h1)];exact h1
 have rq:X2.heap[p+1]? =some (.cells #[.int .i64 0] 46):=by
  rw[iS,hp,←Ay];have h1:=heap_alloc_new (X0.alloc (.cells #[.string ⟨#[]⟩] 9)) (.cells #[.int .i64 0] 46)
  have h2:(X0.alloc (.cells #[.string ⟨#[]⟩] 9)).heap.size=X0.heap.size+1:=by simp
  rw[h2]at h1;exact h1
 have r2:=Z8 ic r0
 have bI:Ext w X2:=aP.trans ic
 have gj:w.heap.size<p:=by omega
 rw[←hp];clear iS Ay hp r0;go_wp2_with(first
  |(refine wpList_load_row (by rfl) 45 (.tmp 1) rfl w.heap.size rfl 45 _ _ _ r2 Tryz.underlying45 rfl (by kernel_rfl) ?_)
  |fail)
 refine(HW.out X2 bI).mono ?_;rintro e w1 ⟨⟨jM,A,c,rfl,hr⟩|⟨jM,rfl⟩,ae⟩
 ·have gD:=zeb c hr
  have rp1:=Z8 ae rp
  have rq1:=Z8 ae rq
  have c1:w1.cell? ⟨p,0,none⟩=some (.string ⟨#[]⟩):=by simp[World.cell?,rp1]
  have c2:w1.cell? ⟨p+1,0,none⟩=some (.int .i64 0):=by simp[World.cell?,rq1]
  have f1:w1.frozen? ⟨p,0,none⟩=false:=by simp[World.frozen?,rp1]
  have f2:w1.frozen? ⟨p+1,0,none⟩=false:=by simp[World.frozen?,rq1]
  have bH:=(Z9 rq1)
  have mZ:Ext w ((w1.setCell ⟨p,0,none⟩ (S (zbf m).1)).setCell ⟨p+1,0,none⟩ (.int .i64 0)):=by
   refine Ext.setCell (Ext.setCell (bI.trans ae) ?_ _) ?_ _<;>(dsimp only;omega)
  obtain⟨y1,y2⟩:=zu8 rp1 rq1 (S (zbf m).1) (.int .i64 0)
  have vw:=Z7 (show zec m=(zbf m).1 by unfold zec;rw[if_pos jM])
  have Az:=Z7 jM
  clear jM;go_wp2_with fail;obtain⟨Y,hY⟩:∃Y,Y=(w1.setCell ⟨p,0,none⟩ (S (zbf m).1)).setCell ⟨p+1,0,none⟩ (.int .i64 0):=⟨_,rfl⟩
  rw[←hY]at mZ y1 y2 ⊢;clear hY;refine leaves_cons (f:=46) (args:= #[.pointer (some ⟨p,0,none⟩),.pointer (some ⟨p+1,0,none⟩)]) (by simp) (by simp[go_sem]) ?_
  refine(zCq ⟨p,0,none⟩ ⟨p+1,0,none⟩ Y).mono ?_;rintro e u' w'' ⟨rfl,rfl,ah⟩;have z1:=(ah.cell (ze7 y1).2).trans y1
  have z2:=(ah.cell (ze7 y2).2).trans y2
  have eH:zml m w (.returned (.tuple #[S (zbf m).1,.int .i64 0])) w'':=⟨by rw[vw.out,Az.out];rfl,mZ.trans ah⟩
  simp[Leaves,settle,results,Tryz.results20,go_sem,z1,z2];exact eH
 ·have rp1:=Z8 ae rp
  have rq1:=Z8 ae rq
  have c1:w1.cell? ⟨p,0,none⟩=some (.string ⟨#[]⟩):=by simp[World.cell?,rp1]
  have c2:w1.cell? ⟨p+1,0,none⟩=some (.int .i64 0):=by simp[World.cell?,rq1]
  have f1:w1.frozen? ⟨p,0,none⟩=false:=by simp[World.frozen?,rp1]
  have f2:w1.frozen? ⟨p+1,0,none⟩=false:=by simp[World.frozen?,rq1]
  have pg:=(Z9 rp1)
  have dx:=(Z9 rq1)
  have vw:=Z7 (show zec m=[]by unfold zec;rw[if_neg jM])
  obtain⟨k,hk⟩:∃k,k=zau m:=⟨_,rfl⟩
  rw[←hk];have HK:=Z7 hk
  clear jM hk;go_wp2_with fail;refine leaves_cons (f:=46) (args:= #[.pointer (some ⟨p,0,none⟩),.pointer (some ⟨p+1,0,none⟩)]) (by simp) (by simp[go_sem]) ?_
  refine(zxj p (p+1) k _ _ [] w1 c1 c2 f1 f2 (by omega) pg dx).mono ?_
  rintro e u' w'' ⟨rfl,rfl,V,hV,rfl⟩;have mZ:Ext w ((V.setCell ⟨p,0,none⟩ (S [])).setCell ⟨p+1,0,none⟩ (.int .i64 k)):=by
   refine Ext.setCell (Ext.setCell (bI.trans (ae.trans hV)) ?_ _) ?_ _<;>(dsimp only;omega)
  obtain⟨z1,z2⟩:=zu8 ((hV.block _ pg).trans rp1) ((hV.block _ dx).trans rq1) (S []) (.int .i64 (k:Int))
  obtain⟨Y,hY⟩:∃Y,Y=(V.setCell ⟨p,0,none⟩ (S [])).setCell ⟨p+1,0,none⟩ (.int .i64 k):=⟨_,rfl⟩
  rw[←hY]at mZ z1 z2 ⊢;have eH:zml m w (.returned (.tuple #[S [],.int .i64 k])) Y:=⟨by rw[vw.out,HK.out];first|done|rfl,mZ⟩
  simp[Leaves,settle,results,Tryz.results20,go_sem,z1,z2];exact eH
end Go.Proofs.YtdnpmapelmjfpaaGreatDoor
