/- Lemmas of this claim. No condition. -/
import Derived.Test.YtdnpmapelmjfpaaGreatDoorLrz
import Derived.Test.YtdnpmapelmjfpaaGreatDoorLv
import Derived.Test.YtdnpmapelmjfpaaGreatDoorLhx
set_option maxHeartbeats 8000000
set_option maxRecDepth 100000
namespace Go.Proofs.YtdnpmapelmjfpaaGreatDoor
theorem zoc (msg:List UInt8) (p0:Nat):∀(n:Nat) (s:RdSt),s.meas<n→(zbr msg n s).2.2=0→(∀k,s.nx=some k→p0≤k)→(s.nx=none→p0≤s.pos)→p0≤(zbr msg n s).2.1
 |0,_,hm,_,_,_=>absurd hm (Nat.not_lt_zero _)
 |n+1,s,hm,h,hk,hp=>by
  unfold zbr at h ⊢;unfold RdSt.meas at hm;rcases hg:msg[s.pos]? with _|b
  ·rw[hg]at h;cases h
  ·rw[hg]at h;dsimp only at h ⊢;split
   ·dsimp only;rcases hn:s.nx with _|k
    ·show p0≤s.pos+1;have:=hp hn;omega
    ·exact hk k hn
   ·rename_i h0;rw[if_neg h0]at h;split
    ·rename_i h1;rw[if_pos h1]at h;split at h
     ·cases h
     ·rename_i h2;rw[if_neg h2];split at h
      ·cases h
      ·rename_i h3;rw[if_neg h3];refine zoc msg p0 n _ ?_ h hk fun e=>?_
       ·unfold RdSt.meas;dsimp only;rw[Z6,List.length_cons];generalize s.lim*300=z at*;omega
       ·have:=hp e;show p0≤s.pos+1+b.toNat;omega
    ·rename_i h1;rw[if_neg h1]at h;split at h
     ·cases h
     ·rename_i h2;rw[if_neg h2];rcases hc:msg[s.pos+1]? with _|c
      ·rw[hc]at h;cases h
      ·rw[hc]at h;dsimp only at h ⊢;split at h
       ·cases h
       ·rename_i h3;rw[if_neg h3];refine zoc msg p0 n _ ?_ h (fun k cU=>?_) (fun e=>by cases e)
        ·unfold RdSt.meas;exact zhf h3 hm
        ·dsimp only at cU;injection cU with cU
         rcases hn:s.nx with _|k'
         ·rw[hn]at cU;simp at cU;have:=hp hn;omega
         ·rw[hn]at cU;simp at cU;have:=hk k' hn;omega
theorem zDc {msg:List UInt8} {pos p:Nat} {n:List UInt8} (h:zbj msg pos=.ok (n,p)):pos≤p:=by
 unfold zbj at h;split at h
 ·rename_i h0;injection h with h;injection h with h1 h2
  rw[←h2];unfold readN at h0 ⊢;exact zoc msg pos _ _ (Nat.lt_succ_self _) h0 (fun k e=>by cases e) (fun _=>Z4 _)
 ·cases h
theorem zFm {msg:List UInt8} {more:Bool} {ed ed':Option EdD} {pos p:Nat} {r:Option RecD} (h:zbd msg more ed pos=.ok (r,ed',p)):pos+10≤p:=by
 rcases h1:zbj msg pos with x|⟨n,p1⟩
 ·rw[zk1 h1]at h;cases h
 have g1:=zDc h1
 rcases h2:zal 2 msg p1 with x|⟨ty,p2⟩
 ·rw[zk2 h1 h2]at h;cases h
 have g2:=zc2 h2
 rcases h3:zal 2 msg p2 with x|⟨cl,p3⟩
 ·rw[zk3 h1 h2 h3]at h;cases h
 have g3:=zc2 h3
 rcases h4:zal 4 msg p3 with x|⟨tt,p4⟩
 ·rw[zk4 h1 h2 h3 h4]at h;cases h
 have g4:=zc2 h4
 rcases h5:zal 2 msg p4 with x|⟨sz,p5⟩
 ·rw[zk5 h1 h2 h3 h4 h5]at h;cases h
 have g5:=zc2 h5
 rw[zk0 h1 h2 h3 h4 h5]at h;have key:p=p5+sz:=by
  split at h
  ·cases h
  split at h
  ·split at h
   ·cases h
   ·split at h
    ·cases h
    ·injection h with h;injection h with _ h;injection h with _ h;exact h.symm
  ·split at h
   ·injection h with h;injection h with _ h;injection h with _ h;exact h.symm
   ·cases h
 omega
theorem zkz {msg:List UInt8} {more:Bool}:∀{k:Nat} {ed ed':Option EdD} {pos p:Nat} {l:List RecD},zao msg more k ed pos=.ok (l,ed',p)→pos+10*l.length≤p
 |0,ed,ed',pos,p,l,h=>by
  unfold zao at h;injection h with h;injection h with e1 e2;injection e2 with e2 e3
  subst e1 e2 e3;exact Z4 _
 |k+1,ed,ed',pos,p,l,h=>by
  unfold zao at h;split at h
  ·cases h
  rename_i h1;split at h
  ·cases h
  rename_i h2;injection h with h;injection h with e1 e2;injection e2 with e2 e3
  have a1:=zFm h1
  have b1:=zkz h2
  rw[←e1,←e3,Z6];rename_i r _ _ _ _ _ _;have hr:r.toList.length≤1:=by cases r<;>simp
  omega
theorem zwa {d:List UInt8} {m:MsgD} (h:zct d=.ok m):10*m.ans.length+10*m.auth.length≤d.length:=by
 obtain⟨hl,p,hb,_⟩:=zqw h
 have hp:=(zzn [] hb hl).2
 unfold zbi at hb;split at hb
 ·cases hb
 split at hb
 ·cases hb
 rename_i h1;split at hb
 ·cases hb
 rename_i h2;split at hb
 ·cases hb
 rename_i h3;injection hb with hb;injection hb with e1 e2
 have g1:=zkz h1
 have g2:=zkz h2
 have g3:=zkz h3
 subst e1;dsimp only;omega
theorem zqx {d:List UInt8} {m:MsgD} (h:zct d=.ok m):(∀r∈m.ans,r.name.length≤300000∧r.data.length≤300000)∧(∀r∈m.auth,r.name.length≤300000∧r.data.length≤300000):=by
 obtain⟨hl,p,hb,_⟩:=zqw h
 have hdl:=(zmq h).2.2.2.2.2
 unfold zbi at hb;split at hb
 ·cases hb
 split at hb
 ·cases hb
 rename_i h1;split at hb
 ·cases hb
 rename_i h2;split at hb
 ·cases hb
 rename_i h3;injection hb with hb;injection hb with e1 e2
 have g1:=zfz hdl h1
 have g2:=zfz hdl h2
 subst e1;exact⟨fun r hr=>by have:=g1.2 r hr;omega,fun r hr=>by have:=g2.2 r hr;omega⟩
theorem zt0 {d:List UInt8} {m:MsgD} (h:zct d=.ok m):m.hd.code≤15:=by
 have h1:=(zEy (zmq h).2.1).1
 unfold zcj zdy at h1;simp only[Bool.and_eq_true,decide_eq_true_eq]at h1;obtain⟨⟨⟨⟨⟨⟨h2,_⟩,_⟩,_⟩,_⟩,_⟩,_⟩:=h1
 omega
def code12 (m:MsgD):Int:=(if m.he=true then m.ed.ext else 0)*16+m.hd.code%16
def zd1 (m:MsgD) (n:List UInt8) (ty cls:Int):Bool:=match m.qs with
 |[x]=>sameN x.name n&&(decide (x.typ=ty)&&decide (x.cls=cls))
 |_=>false
structure ReplyD where
 kind:Int
 ver:VerR
def ReplyD.bad:ReplyD:=⟨1,VerR.bad 0⟩
def ReplyD.pass:ReplyD:=⟨2,VerR.bad 0⟩
def zfn (m:MsgD) (n:List UInt8) (ty cls:Int):ReplyD:=
 if m.hd.qr=true∧m.hd.op=0∧zd1 m n ty cls=true then
  (if m.hd.tc=true∨(code12 m≠0∧code12 m≠3)then .pass
   else if(verOf n ty cls m.hd.code m.ans m.auth).err=0 then⟨3,verOf n ty cls m.hd.code m.ans m.auth⟩else .bad)
 else .bad
theorem zph {m:MsgD} {n:List UInt8} {ty cls:Int} (h:¬(m.hd.qr=true∧m.hd.op=0∧zd1 m n ty cls=true)):zfn m n ty cls=.bad:=by unfold zfn;rw[if_neg h]
theorem zh5 {m:MsgD} {n:List UInt8} {ty cls:Int} (h:m.hd.qr=true∧m.hd.op=0∧zd1 m n ty cls=true) (h2:m.hd.tc=true∨(code12 m≠0∧code12 m≠3)):zfn m n ty cls=.pass:=by unfold zfn;rw[if_pos h,if_pos h2]
theorem zjl {m:MsgD} {n:List UInt8} {ty cls:Int} (h:m.hd.qr=true∧m.hd.op=0∧zd1 m n ty cls=true) (ht:m.hd.tc=false) (hc:code12 m=0∨code12 m=3):
 zfn m n ty cls=if(verOf n ty cls m.hd.code m.ans m.auth).err=0 then⟨3,verOf n ty cls m.hd.code m.ans m.auth⟩else .bad:=by
 unfold zfn;rw[if_pos h,if_neg];rintro(h2|⟨h2,h3⟩)
 ·rw[ht]at h2;cases h2
 ·exact hc.elim h2 h3
def replyOf (d:List UInt8) (n:List UInt8) (ty cls:Int):ReplyD:=match zct d with
 | .error _=>.bad
 | .ok m=>zfn m n ty cls
end Go.Proofs.YtdnpmapelmjfpaaGreatDoor
namespace Go.Proofs.YtdnpmapelmjfpaaGreatDoor
open Go.RowKit Go.Extern.Stop Go.Stop Go.Extern
theorem ztb (v:Value) (w:World):(ReflectliteType.typeOf #[.iface 366 v]).run Tryz.prog w=.ok (.iface 286 (.agg #[.pointer (some ⟨5,366,none⟩)])) w:=by kernel_rfl
theorem zlu (w:World):((ReflectliteType.method fun t=>do Rtype.noPackHeld "Comparable" t;(fun a=>Value.bool a.comparable)<$>typeInfo t) #[.agg #[.pointer (some ⟨5,366,none⟩)]]).run Tryz.prog w=.ok (.bool true) w:=by kernel_rfl
theorem zhc (v:Value) (w:World):(Go.method 496 286 v "Comparable").run Tryz.prog w=.ok (271,v) w:=by kernel_rfl
theorem zA8:(Tryz.prog.info? 366).map (·.comparable)=some true:=by kernel_rfl
theorem zA9:(Tryz.prog.info? 385).map (·.size)=some 1:=by kernel_rfl
theorem zH1 (v:Value) (xT:TypeId) (w:World):(Instr.typeAssert (.iface 366 v) xT 288 true).run Tryz.prog w=.ok (.tuple #[.nilIface,.bool false]) w:=run_typeAssert_lacksB Tryz.underlying288 (by kernel_rfl) (by kernel_rfl) v xT w
theorem zAn (v:Value) (xT:TypeId) (w:World):(Instr.typeAssert (.iface 366 v) xT 291 true).run Tryz.prog w=.ok (.tuple #[.nilIface,.bool false]) w:=run_typeAssert_lacksB Tryz.underlying291 (by kernel_rfl) (by kernel_rfl) v xT w
theorem zy4 (v:Value) (xT:TypeId) (w:World):(Instr.typeAssert (.iface 366 v) xT 293 true).run Tryz.prog w=.ok (.tuple #[.nilIface,.bool false]) w:=run_typeAssert_lacksB Tryz.underlying293 (by kernel_rfl) (by kernel_rfl) v xT w
theorem zwh (a:Addr) (w:World):
 Calls Tryz.prog 64 #[.iface 366 (.pointer (some a)),.iface 366 (.pointer (some a))] w fun e w'=>e=.returned (.bool true)∧w'=w:=by
 obtain⟨i,hi,jo⟩:=Option.map_eq_some_iff.1 zA8
 obtain⟨j,hj,jR⟩:=Option.map_eq_some_iff.1 zA9
 have h8:=@run_callFunc_extern Tryz.prog 126 _ ReflectliteType.typeOf Tryz.func126 (by kernel_rfl) (by kernel_rfl) (by kernel_rfl) (by kernel_rfl)
 have Iy:=@run_callFunc_extern Tryz.prog 271 _ (ReflectliteType.method fun t=>do Rtype.noPackHeld "Comparable" t;pure (.bool (←typeInfo t).comparable)) Tryz.func271 (by kernel_rfl) (by kernel_rfl) (by kernel_rfl) (by kernel_rfl)
 have tT:=ztb
 have cT:=zlu
 have mR:=zhc
 have iv:=run_eql_iface_ptr_same (P:=Tryz.prog) w a Tryz.underlying124 Tryz.underlying366 hi jo hj
 go_enter Tryz.func64,Tryz.ntmps64
 go_wp2
 refine wp_loop_rounds 1 ?_;rw[rounds_succ]
 go_wp2
 go_ret;exact⟨rfl,rfl⟩
theorem zAa (b:Addr) (w:World):
 Calls Tryz.prog 64 #[.nilIface,.iface 366 (.pointer (some b))] w fun e w'=>e=.returned (.bool false)∧w'=w:=by
 have hn:=run_eql_iface_nil_left (P:=Tryz.prog) w 366 (.pointer (some b)) Tryz.underlying124
 go_enter Tryz.func64,Tryz.ntmps64
 go_wp2
 go_ret;exact⟨rfl,rfl⟩
theorem zCz (a b:Addr) (ca cb:Array Value) (ta tb:TypeId) (w:World) (au:a≠b) (ha:w.heap[a.block]? =some (.cells ca ta (0,0))) (hb:w.heap[b.block]? =some (.cells cb tb (0,0))):
 Calls Tryz.prog 64 #[.iface 366 (.pointer (some a)),.iface 366 (.pointer (some b))] w fun e w'=>e=.returned (.bool false)∧w'=w:=by
 obtain⟨i,hi,jo⟩:=Option.map_eq_some_iff.1 zA8
 obtain⟨j,hj,jR⟩:=Option.map_eq_some_iff.1 zA9
 have h8:=@run_callFunc_extern Tryz.prog 126 _ ReflectliteType.typeOf Tryz.func126 (by kernel_rfl) (by kernel_rfl) (by kernel_rfl) (by kernel_rfl)
 have Iy:=@run_callFunc_extern Tryz.prog 271 _ (ReflectliteType.method fun t=>do Rtype.noPackHeld "Comparable" t;pure (.bool (←typeInfo t).comparable)) Tryz.func271 (by kernel_rfl) (by kernel_rfl) (by kernel_rfl) (by kernel_rfl)
 have tT:=ztb
 have cT:=zlu
 have mR:=zhc
 have nE:=zH1
 have uE:=zAn
 have vE:=zy4
 have iv:=run_eql_iface_ptr_other (P:=Tryz.prog) w Tryz.underlying124 Tryz.underlying366 hi jo hj (by rw[jR];decide) au ha hb
 go_enter Tryz.func64,Tryz.ntmps64
 go_wp2
 refine wp_loop_rounds 1 ?_;rw[rounds_succ]
 go_wp2
 go_ret;exact⟨rfl,rfl⟩
end Go.Proofs.YtdnpmapelmjfpaaGreatDoor
namespace Go.Proofs.YtdnpmapelmjfpaaGreatDoor
open Go.RowKit
theorem zxt (m:MsgD) (q a u x o:Value) (n:List UInt8) (ty cls:Int) (w:World) (hq:Qus w 0 q m.qs) (hn:n.length≤maxLen) (bB:∀q∈m.qs,q.name.length≤1048576):
 Calls Tryz.prog 123 #[zfd m.hd q a u x m.he m.ed o,.agg #[S n,.int .u16 ty,.int .u16 cls]] w fun e w'=>e=.returned (.bool (zd1 m n ty cls))∧Ext w w':=by
 obtain⟨A,c,rfl,h1,h2,ay⟩:=hq
 unfold maxLen at h2;obtain⟨X1,aV⟩:∃X1,X1=w.alloc (.cells #[.int .u16 m.hd.id,.bool m.hd.qr,.int .u8 m.hd.op,.bool m.hd.aa,.bool m.hd.tc,.bool m.hd.rd,.bool m.hd.ra,.bool m.hd.z,.bool m.hd.ad,.bool m.hd.cd,.int .u8 m.hd.code,.slice A m.qs.length c,a,u,x,.bool m.he,.int .u16 m.ed.size,.int .u8 m.ed.ext,.int .u8 m.ed.ver,.int .u16 m.ed.flags,o] 45):=⟨_,rfl⟩
 obtain⟨X0,ar⟩:∃X0,X0=X1.alloc (.cells #[S n,.int .u16 ty,.int .u16 cls] 32):=⟨_,rfl⟩
 obtain⟨g1,bh⟩:∃g1,g1=X1.heap.size:=⟨_,rfl⟩
 have r1:X1.heap[w.heap.size]? =some (.cells #[.int .u16 m.hd.id,.bool m.hd.qr,.int .u8 m.hd.op,.bool m.hd.aa,.bool m.hd.tc,.bool m.hd.rd,.bool m.hd.ra,.bool m.hd.z,.bool m.hd.ad,.bool m.hd.cd,.int .u8 m.hd.code,.slice A m.qs.length c,a,u,x,.bool m.he,.int .u16 m.ed.size,.int .u8 m.ed.ext,.int .u8 m.ed.ver,.int .u16 m.ed.flags,o] 45):=by rw[aV];exact heap_alloc_new _ _
 have r0:X0.heap[g1]? =some (.cells #[S n,.int .u16 ty,.int .u16 cls] 32):=by rw[ar,bh];exact heap_alloc_new _ _
 have a7:Ext X1 X0:=by rw[ar];exact(Z5 _).alloc _
 have aD:Ext w X0:=Ext.trans (by rw[aV];exact(Z5 _).alloc _) a7
 have r10:=Z8 a7 r1
 have bH:w.heap.size+1=g1:=by rw[bh,aV];simp
 have kG:=Z7 bH
 clear bH;go_enter Tryz.func123,Tryz.ntmps123;go_upto_region 1 with fail
 rw[←aV,←ar];have e1:(w.heap.size+1)=g1:=kG.out
 try rw[e1]
 try rw[←bh]
 clear e1 aV ar bh a7;have z11:=za0 (j:=11) r10 rfl
 have y0:=za0 (j:=0) r0 rfl
 have y1:=za0 (j:=1) r0 rfl
 have y2:=za0 (j:=2) r0 rfl
 by_cases hl:m.qs.length=1
 ·obtain⟨x0,hx⟩:=List.length_eq_one_iff.1 hl
  have hB:=Z7 (show zd1 m n ty cls=(sameN x0.name n&&(decide (x0.typ=ty)&&decide (x0.cls=cls)))from by unfold zd1;rw[hx])
  obtain⟨b,off,rfl,_,az,hc⟩:=(ay.ext aD).2 (by omega)
  obtain⟨q0,q1,q2⟩:=zdt hc 0 x0 (by rw[hx];rfl)
  have gF:=bB x0 (by rw[hx];simp)
  rw[hl]at z11;rw[Nat.zero_mul,Nat.add_zero]at q0 q1 q2;have yS:=Z7 (fun V=>zm2 x0.name n V (by unfold maxLen;omega) hn)
  generalize sameN x0.name n=sm at*;clear hc az bB ay h1;obtain⟨xn,xt,xc⟩:=x0
  dsimp only at*;rw[hl];obtain⟨X2,iS⟩:∃X2,X2=X0.alloc (.cells #[S xn,.int .u16 xt,.int .u16 xc] 32):=⟨_,rfl⟩
  obtain⟨g2,ci⟩:∃g2,g2=X0.heap.size:=⟨_,rfl⟩
  have r2:X2.heap[g2]? =some (.cells #[S xn,.int .u16 xt,.int .u16 xc] 32):=by rw[iS,ci];exact heap_alloc_new _ _
  have ah:Ext X0 X2:=by rw[iS];exact(Z5 _).alloc _
  have r02:=Z8 ah r0
  go_upto_region 4 with fail
  rw[←iS,←ci];clear iS ci z11 y0 y1 y2 q0 q1 q2;have y0:=za0 (j:=0) r02 rfl
  have p0:=za0 (j:=0) r2 rfl
  go_wp2_with fail;refine(yS.out _).mono ?_;rintro e w1 ⟨rfl,ae⟩;clear y0 p0;have r03:=Z8 ae r02
  have r3:=Z8 ae r2
  have y1:=za0 (j:=1) r03 rfl
  have y2:=za0 (j:=2) r03 rfl
  have p1:=za0 (j:=1) r3 rfl
  have p2:=za0 (j:=2) r3 rfl
  have dB:Ext w w1:=(aD.trans ah).trans ae
  rcases sm with _|_
  ·go_wp2_with fail;go_ret;exact⟨by rw[hB.out];rfl,dB⟩
  by_cases ht:xt=ty
  ·have oz:(xt==ty)=true:=by rw[ht];exact beq_self_eq_true _
   by_cases hc:xc=cls
   ·have cD:(xc==cls)=true:=by rw[hc];exact beq_self_eq_true _
    have mi:=Z7 (show zd1 m n ty cls=true from by rw[hB.out,decide_eq_true ht,decide_eq_true hc];rfl)
    clear ht hc;go_wp2_with fail;go_ret;exact⟨by rw[mi.out];rfl,dB⟩
   ·have cD:(xc==cls)=false:=by rw[beq_eq_false_iff_ne];exact hc
    have mi:=Z7 (show zd1 m n ty cls=false from by rw[hB.out,decide_eq_false hc];cases decide (xt=ty)<;>rfl)
    clear ht hc;go_wp2_with fail;go_ret;exact⟨by rw[mi.out];rfl,dB⟩
  ·have oz:(xt==ty)=false:=by rw[beq_eq_false_iff_ne];exact ht
   have mi:=Z7 (show zd1 m n ty cls=false from by rw[hB.out,decide_eq_false ht];rfl)
   clear ht;go_wp2_with fail;go_ret;exact⟨by rw[mi.out];rfl,dB⟩
 ·have eT:((m.qs.length:Int)==1)=false:=by rw[beq_eq_false_iff_ne];omega
  have hB:=Z7 (show zd1 m n ty cls=false from by
   unfold zd1;split
   ·rename_i y hy;rw[hy]at hl;exact absurd rfl hl
   ·rfl)
  clear hl;go_wp2_with fail;go_ret;exact⟨by rw[hB.out];rfl,aD⟩
theorem zze (n k:Nat):n&&& (2^k - 1)=n%2^k:=Nat.and_two_pow_sub_one_eq_mod n k
theorem zAq (x c:Nat) (hc:c<16):x*16|||c=x*16+c:=by
 have:=Nat.shiftLeft_add_eq_or_of_lt (i:=4) (b:=c) hc x
 rw[Nat.shiftLeft_eq]at this;exact this.symm
theorem zov (c e:Nat) (w:World) (hc:c≤255) (he:e≤255):Calls Tryz.prog 14 #[.int .u8 c,.int .u8 e] w fun x w'=>x=.returned (.int .i64 ((e*16+c%16:Nat):Int))∧w=w':=by
 have a1:bits .and .u8 (c:Int) 15=((c%16:Nat):Int):=by
  rw[show(15:Int)=((15:Nat):Int)from rfl,u8_and_nat c 15 (by omega) (by omega),show(15:Nat)=2^4 - 1 from rfl,zze]
 have a2:bits .or .i64 ((e:Int)*16) ((c%16:Nat):Int)=((e*16+c%16:Nat):Int):=by
  have h1:=zp0 (e*16) (c%16) (by omega) (by omega)
  rw[zAq _ _ (by omega),Int.natCast_mul]at h1
  exact h1
 have yC:(c:Int)≤255:=by omega
 have Kd:(e:Int)≤255:=by omega
 have m1:((c%16:Nat):Int)≤15:=by omega
 have HA:=Z7 a2
 generalize c%16=c16 at*;go_enter Tryz.func14,Tryz.ntmps14;go_wp2_with fail;go_ret;exact⟨rfl,rfl⟩
theorem zxu (m:MsgD) (q a u x o:Value) (w:World) (cF:m.wf) (dz:m.hd.code≤15):
 Calls Tryz.prog 124 #[zfd m.hd q a u x m.he m.ed o] w fun e w'=>e=.returned (.int .i64 (code12 m))∧Ext w w':=by
 obtain⟨X0,ar⟩:∃X0,X0=w.alloc (.cells #[.int .u16 m.hd.id,.bool m.hd.qr,.int .u8 m.hd.op,.bool m.hd.aa,.bool m.hd.tc,.bool m.hd.rd,.bool m.hd.ra,.bool m.hd.z,.bool m.hd.ad,.bool m.hd.cd,.int .u8 m.hd.code,q,a,u,x,.bool m.he,.int .u16 m.ed.size,.int .u8 m.ed.ext,.int .u8 m.ed.ver,.int .u16 m.ed.flags,o] 45):=⟨_,rfl⟩
 have r0:X0.heap[w.heap.size]? =some (.cells #[.int .u16 m.hd.id,.bool m.hd.qr,.int .u8 m.hd.op,.bool m.hd.aa,.bool m.hd.tc,.bool m.hd.rd,.bool m.hd.ra,.bool m.hd.z,.bool m.hd.ad,.bool m.hd.cd,.int .u8 m.hd.code,q,a,u,x,.bool m.he,.int .u16 m.ed.size,.int .u8 m.ed.ext,.int .u8 m.ed.ver,.int .u16 m.ed.flags,o] 45):=by rw[ar];exact heap_alloc_new _ _
 have aD:Ext w X0:=by rw[ar];exact(Z5 _).alloc _
 go_enter Tryz.func124,Tryz.ntmps124;go_upto_region 1 with fail
 rw[←ar];clear ar;have z10:=za0 (j:=10) r0 rfl
 have z15:=za0 (j:=15) r0 rfl
 have z17:=za0 (j:=17) r0 rfl
 have hc:=cF.code
 have hx:=cF.ext
 obtain⟨cn,db⟩:∃cn:Nat,m.hd.code=(cn:Int):=⟨m.hd.code.toNat,by omega⟩
 obtain⟨xn,B6⟩:∃xn:Nat,m.ed.ext=(xn:Int):=⟨m.ed.ext.toNat,by omega⟩
 rw[db]at z10;rw[B6]at z17;have HC:=Z7 (show code12 m=(if m.he=true then((xn*16+cn%16:Nat):Int)else((0*16+cn%16:Nat):Int))from by
  unfold code12;rw[db,B6];split<;>omega)
 have Az:=Z7 (fun V=>zov cn xn V (by omega) (by omega))
 have vw:=Z7 (fun V=>zov cn 0 V (by omega) (by omega))
 clear db B6 hc hx;rcases he:m.he with _|_
 ·rw[he]at z15;go_wp2_with fail;refine(vw.out _).mono ?_;rintro e w1 ⟨rfl,rfl⟩;go_wp2_with fail;go_ret;exact⟨by rw[HC.out,he];simp,aD⟩
 ·rw[he]at z15;go_wp2_with fail;refine(Az.out _).mono ?_;rintro e w1 ⟨rfl,rfl⟩;go_wp2_with fail;go_ret;exact⟨by rw[HC.out,he];simp,aD⟩
abbrev zci (a:Addr):Value:=.iface 366 (.pointer (some a))
structure ErrsAt (w:World) (a b:Addr):Prop where
 bad:w.cell? ⟨0,0,none⟩=some (zci a)
 pass:w.cell? ⟨1,0,none⟩=some (zci b)
 ha:∃ca ta,w.heap[a.block]? =some (.cells ca ta (0,0))
 hb:∃ca ta,w.heap[b.block]? =some (.cells ca ta (0,0))
 ne:a≠b
theorem zi1 {w:World} {p:Addr} {v:Value} (h:w.cell? p=some v):p.block<w.heap.size:=by
 rcases Nat.lt_or_ge p.block w.heap.size with h'|h'
 ·exact h'
 ·simp[World.cell?,Array.getElem?_eq_none h']at h
theorem ErrsAt.ext {w w':World} {a b:Addr} (h:ErrsAt w a b) (hE:Ext w w'):ErrsAt w' a b:=by
 obtain⟨ca,ta,hA⟩:=h.ha
 obtain⟨cb,tb,hB⟩:=h.hb
 exact⟨(hE.cell (zi1 h.bad)).trans h.bad,(hE.cell (zi1 h.pass)).trans h.pass,⟨ca,ta,Z8 hE hA⟩,⟨cb,tb,Z8 hE hB⟩,h.ne⟩
def zf7 (R:ReplyD) (a b:Addr) (w:World) (e:Ending) (w':World):Prop:=
 ∃vs vo er,e=.returned (.tuple #[.agg #[.int .u8 R.ver.code,vs,vo],.int .u32 R.ver.time,er])∧((R.kind=1∧er=zci a)∨(R.kind=2∧er=zci b)∨(R.kind=3∧er=.nilIface))∧
  OSets w' w.heap.size vs R.ver.sets∧OSets w' w.heap.size vo R.ver.soa∧(vo.ownBlock=none∨vo.ownBlock≠vs.ownBlock)∧Ext w w'
theorem zg4 {w w':World} {a b:Addr} (h:Ext w w'):zf7 .bad a b w (.returned (.tuple #[.agg #[.int .u8 0,.slice none 0 0,.slice none 0 0],.int .u32 0,zci a])) w':=
 ⟨_,_,_,rfl,.inl ⟨rfl,rfl⟩,OSets.nil _ _,OSets.nil _ _,.inl rfl,h⟩
theorem zpb {w w':World} {a b:Addr} (h:Ext w w'):zf7 .pass a b w (.returned (.tuple #[.agg #[.int .u8 0,.slice none 0 0,.slice none 0 0],.int .u32 0,zci b])) w':=
 ⟨_,_,_,rfl,.inr (.inl ⟨rfl,rfl⟩),OSets.nil _ _,OSets.nil _ _,.inl rfl,h⟩
def xOf (m:MsgD) (qA xA oA:Option Addr) (qc xc oc:Nat):MsgX:=⟨m.hd.id,m.hd.qr,m.hd.op,m.hd.aa,m.hd.tc,m.hd.rd,m.hd.ra,m.hd.z,m.hd.ad,m.hd.cd,qA,m.qs.length,qc,xA,m.extra.length,xc,m.he,m.ed.size,m.ed.ext,m.ed.ver,m.ed.flags,oA,m.ed.opts.length,oc⟩
section
variable {P : Program}
theorem zc5 {fn:Func} {p u x:Tmp} {ty:TypeId} (h:fn.results= #[.cell p ty,.tmp u,.tmp x]) (tmps:Array Value) (w:World) (g:Nat) (t:TypeId) (cs:Array Value) (fr:Nat×Nat) (d:TypeDesc)
 (hp:tmps.getD p undef=.pointer (some ⟨g,0,none⟩)) (hg:w.heap[g]? =some (.cells cs t fr))
 (hu:P.underlying ty=some d) (hd:(match d with| .struct _| .array _ _=>true|_=>false)=true) (hi:(P.info? ty).map (·.size)=some cs.size):
 (results fn tmps).run P w=.ok (.tuple #[.agg cs,tmps.getD u undef,tmps.getD x undef]) w:=by
 have de:tmps[p]?.getD undef=.pointer (some ⟨g,0,none⟩):=by simpa using hp
 simp[results,h,de,asAddr,run_loadVar_row w g t ty cs fr d hg hu hd hi]
theorem zc6 {fn:Func} {p:Tmp} {ty:TypeId} (h:fn.results= #[.cell p ty]) (tmps:Array Value) (w:World) (g:Nat) (t:TypeId) (cs:Array Value) (fr:Nat×Nat) (d:TypeDesc)
 (hp:tmps.getD p undef=.pointer (some ⟨g,0,none⟩)) (hg:w.heap[g]? =some (.cells cs t fr))
 (hu:P.underlying ty=some d) (hd:(match d with| .struct _| .array _ _=>true|_=>false)=true) (hi:(P.info? ty).map (·.size)=some cs.size):
 (results fn tmps).run P w=.ok (.agg cs) w:=by
 have de:tmps[p]?.getD undef=.pointer (some ⟨g,0,none⟩):=by simpa using hp
 simp[results,h,de,asAddr,run_loadVar_row w g t ty cs fr d hg hu hd hi]
end
theorem zj0 {Z:World} {g:Nat} {p:Addr} {v x y z:Value} (h:Z.cell? p=some v) (au:p.block≠g):(((Z.setCell ⟨g,0,none⟩ x).setCell ⟨g,1,none⟩ y).setCell ⟨g,2,none⟩ z).cell? p=some v:=by
 have k:∀(V:World) (j:Nat) (u:Value),(V.setCell ⟨g,j,none⟩ u).cell? p=V.cell? p:=fun V j u=>World.cell?_setCell_other V ⟨g,j,none⟩ p u (by intro e;subst e;exact au rfl)
 rw[k,k,k];exact h
theorem zld (w:World) (zs cs:Array Value) (t:TypeId) (g:Nat) (hg:g=w.heap.size):(w.alloc (.cells zs t)).setRow g cs=w.alloc (.cells cs t):=by
 subst hg;unfold World.setRow World.alloc;simp only;congr 1;apply Array.ext_getElem?;intro i;simp only[Array.getElem?_modify,Array.getElem?_push];by_cases h:i=w.heap.size
 ·subst h;simp
 ·rw[if_neg (fun e=>h e.symm),if_neg h,if_neg h]
theorem zxv (d n:List UInt8) (ty cls:Int) (a b:Addr) (w:World) (hg:Laid w) (hb:BitsAt w) (he:ErrsAt w a b) (hd:d.length≤16384) (hn:n.length≤1048576):
 Calls Tryz.prog 63 #[.agg #[S n,.int .u16 ty,.int .u16 cls],S d] w (zf7 (replyOf d n ty cls) a b w):=by
 obtain⟨X1,aV⟩:∃X1,X1=w.alloc (.cells #[S n,.int .u16 ty,.int .u16 cls] 32):=⟨_,rfl⟩
 obtain⟨X0,ar⟩:∃X0,X0=X1.alloc (.cells #[.int .u8 0,.slice none 0 0,.slice none 0 0] 24):=⟨_,rfl⟩
 obtain⟨g1,bh⟩:∃g1,g1=X1.heap.size:=⟨_,rfl⟩
 have r1:X1.heap[w.heap.size]? =some (.cells #[S n,.int .u16 ty,.int .u16 cls] 32):=by rw[aV];exact heap_alloc_new _ _
 have r0:X0.heap[g1]? =some (.cells #[.int .u8 0,.slice none 0 0,.slice none 0 0] 24):=by rw[ar,bh];exact heap_alloc_new _ _
 have a7:Ext X1 X0:=by rw[ar];exact(Z5 _).alloc _
 have aD:Ext w X0:=Ext.trans (by rw[aV];exact(Z5 _).alloc _) a7
 have r10:=Z8 a7 r1
 have bH:w.heap.size+1=g1:=by rw[bh,aV];simp
 have bG:w.heap.size≤g1:=by omega
 have kG:=Z7 bH
 have HD:=Z7 (zvu d X0 (hg.ext aD) (hb.ext aD) (by omega))
 clear bH;go_enter Tryz.func63,Tryz.ntmps63;go_upto_region 1 with fail
 rw[←aV,←ar];have e1:(w.heap.size+1)=g1:=kG.out
 try rw[e1]
 try rw[←bh]
 clear e1 aV ar bh a7;have iT:=Z7 (fun V (hV:Ext w V)=>he.ext hV)
 go_wp2_with fail;refine HD.out.mono ?_;rintro e Y ⟨jJ,pT⟩;rcases jJ with⟨k,hk,hx,rfl⟩|⟨m,q,a',u,x,o,hm,rfl,pK,lS⟩
 ·have hR:=Z7 (show replyOf d n ty cls=.bad from by unfold replyOf;rw[hx])
  have iC:((k:Int)==0)=false:=by rw[beq_eq_false_iff_ne];omega
  clear hx hk;generalize (k:Int)=z at*;have lv:¬z=0:=by rw[beq_eq_false_iff_ne]at iC;exact iC
  have EL:decide (z=0)=false:=decide_eq_false lv
  dsimp only
  iterate 10 go_step
  obtain⟨g7,dV⟩:∃g7,g7=Y.heap.size:=⟨_,rfl⟩
  have hz:(Y.alloc (.cells zb8 45)).heap[g7]? =some (.cells zb8 45):=by rw[dV];exact heap_alloc_new _ _
  refine Go.Great.wpList_allocTo rfl (some 7) rfl (.pointer (some ⟨Y.heap.size,0,none⟩)) (.cells zb8 45) (by kernel_rfl) ?_
  rw[←dV];refine Go.wpList_store_rowTo rfl 45 (.tmp 7) (.tmp 15) rfl rfl g7 zb8 rfl rfl 45 _ hz (by kernel_rfl) rfl (by kernel_rfl) ?_
  rw[zld Y zb8 zb8 45 g7 dV]
  iterate 3 go_step
  refine wpList_nil ?_;rw[←dV];have r7:(Y.alloc (.cells zb8 45)).heap[g7]? =some (.cells zb8 45):=by rw[dV];exact heap_alloc_new _ _
  have pU:Ext Y (Y.alloc (.cells zb8 45)):=(Z5 _).alloc _
  have B7:Y.heap.size≤g7:=by rw[dV];exact Z4 _
  obtain⟨Z,hZ⟩:∃Z,Z=Y.alloc (.cells zb8 45):=⟨_,rfl⟩
  rw[←hZ]at r7 pU ⊢;have bN:Ext X0 Z:=pT.trans pU
  clear hZ hz dV;have rr:=Z8 bN r0
  have y0:=za0 (j:=0) rr rfl
  have y1:=za0 (j:=1) rr rfl
  have y2:=za0 (j:=2) rr rfl
  have f0:=za3 (j:=0) rr
  have f1:=za3 (j:=1) rr
  have f2:=za3 (j:=2) rr
  have eb:=(iT.out Z (aD.trans bN)).bad
  have ep:=(iT.out Z (aD.trans bN)).pass
  have fe:0<g1:=Z1 (zi1 he.bad) bG
  have mj:1<g1:=Z1 (zi1 he.pass) bG
  go_upto_region 3 with fail
  have hS:Z.drew.cell? ⟨0,0,none⟩=some (zci a):=eb
  refine wp_region_noPanic ?_;refine za6 (S:=(fun V=>V.cell? ⟨0,0,none⟩=some (zci a))) (.take 0 (.take 1 (.run 2 (.take 3 (.take 4 (.done)))))) (by kernel_rfl) (by kernel_rfl) (fun _ _ _ _ _ h=>h) (hS) ?_
  repeat((with_reducible refine za7 ?_);first
   |(refine zb2 (a':=?_) ⟨_,hS⟩ (by rfl) rfl (by kernel_rfl) rfl ?_ ?_;rotate_left;(focus(intro V Q' hV hq;(repeat(first|go_guarded|go_skip|go_step));(first|exact hq|exact wpList_nil hq)))))
  refine za5 (by rfl) (fun K hK=>?_)
  go_simp;refine hK.out _ _ ?_ ?_
  ·exact zj0 eb (Nat.ne_of_lt fe)
  clear hK K
  (try simp only[ap])
  repeat((with_reducible refine za7 ?_);first
   |(refine zb2 (a':=?_) ⟨_,hS⟩ (by rfl) rfl (by kernel_rfl) rfl ?_ ?_;rotate_left;(focus(intro V Q' hV hq;(repeat(first|go_guarded|go_skip|go_step));(first|exact hq|exact wpList_nil hq)))))
  refine zag ?_;refine NoPanic.normal ?_;obtain⟨U,hU⟩:∃U,U=(((Z.setCell ⟨g1,0,none⟩ (.int .u8 0)).setCell ⟨g1,1,none⟩ (.slice none 0 0)).setCell ⟨g1,2,none⟩ (.slice none 0 0)).drew:=⟨_,rfl⟩
  rw[←hU];have ru:U.heap[g1]? =some (.cells #[.int .u8 0,.slice none 0 0,.slice none 0 0] 24):=by rw[hU];exact za2 (za2 (za2 rr 0 _) 1 _) 2 _
  have cu:Ext w U:=by rw[hU];exact((((aD.trans bN).setCell bG _).setCell bG _).setCell bG _).drew
  have u0:=za0 (j:=0) ru rfl
  have u1:=za0 (j:=1) ru rfl
  have u2:=za0 (j:=2) ru rfl
  clear hU rr y0 y1 y2 f0 f1 f2;go_wp2_with fail;refine bodyPost_ret (zc5 rfl _ _ g1 _ _ _ _ rfl ru Tryz.underlying24 rfl (by kernel_rfl)) rfl ?_
  show zf7 (replyOf d n ty cls) a b w (.returned (.tuple #[.agg #[.int .u8 0,.slice none 0 0,.slice none 0 0],.int .u32 0,zci a])) U
  rw[hR.out];exact zg4 cu
 ·have hR:=Z7 (show replyOf d n ty cls=zfn m n ty cls from by unfold replyOf;rw[hm])
  obtain⟨d1,-,-,-,-,d6⟩:=zmq hm
  have dz:=zt0 hm
  have wT:=zwa hm
  obtain⟨B8,B9⟩:=zqx hm
  have gt:=Z7 pK
  have dN:=Z7 lS
  obtain⟨⟨qA,qc,rfl,_⟩,⟨aA,ac,rfl,_⟩,⟨uA,uc,rfl,_⟩,⟨xA,xc,rfl,_⟩,⟨oA,oc,rfl,_⟩⟩:=pK
  clear hm;dsimp only
  iterate 10 go_step
  obtain⟨g7,dV⟩:∃g7,g7=Y.heap.size:=⟨_,rfl⟩
  have hz:(Y.alloc (.cells zb8 45)).heap[g7]? =some (.cells zb8 45):=by rw[dV];exact heap_alloc_new _ _
  refine Go.Great.wpList_allocTo rfl (some 7) rfl (.pointer (some ⟨Y.heap.size,0,none⟩)) (.cells zb8 45) (by kernel_rfl) ?_
  rw[←dV];refine Go.wpList_store_rowTo rfl 45 (.tmp 7) (.tmp 15) rfl rfl g7 #[.int .u16 m.hd.id,.bool m.hd.qr,.int .u8 m.hd.op,.bool m.hd.aa,.bool m.hd.tc,.bool m.hd.rd,.bool m.hd.ra,.bool m.hd.z,.bool m.hd.ad,.bool m.hd.cd,.int .u8 m.hd.code,.slice qA m.qs.length qc,.slice aA m.ans.length ac,.slice uA m.auth.length uc,.slice xA m.extra.length xc,.bool m.he,.int .u16 m.ed.size,.int .u8 m.ed.ext,.int .u8 m.ed.ver,.int .u16 m.ed.flags,.slice oA m.ed.opts.length oc] rfl rfl 45 _ hz (by kernel_rfl) rfl (by kernel_rfl) ?_
  rw[zld Y zb8 #[.int .u16 m.hd.id,.bool m.hd.qr,.int .u8 m.hd.op,.bool m.hd.aa,.bool m.hd.tc,.bool m.hd.rd,.bool m.hd.ra,.bool m.hd.z,.bool m.hd.ad,.bool m.hd.cd,.int .u8 m.hd.code,.slice qA m.qs.length qc,.slice aA m.ans.length ac,.slice uA m.auth.length uc,.slice xA m.extra.length xc,.bool m.he,.int .u16 m.ed.size,.int .u8 m.ed.ext,.int .u8 m.ed.ver,.int .u16 m.ed.flags,.slice oA m.ed.opts.length oc] 45 g7 dV]
  iterate 3 go_step
  refine wpList_nil ?_;rw[←dV];have r7:(Y.alloc (.cells #[.int .u16 m.hd.id,.bool m.hd.qr,.int .u8 m.hd.op,.bool m.hd.aa,.bool m.hd.tc,.bool m.hd.rd,.bool m.hd.ra,.bool m.hd.z,.bool m.hd.ad,.bool m.hd.cd,.int .u8 m.hd.code,.slice qA m.qs.length qc,.slice aA m.ans.length ac,.slice uA m.auth.length uc,.slice xA m.extra.length xc,.bool m.he,.int .u16 m.ed.size,.int .u8 m.ed.ext,.int .u8 m.ed.ver,.int .u16 m.ed.flags,.slice oA m.ed.opts.length oc] 45)).heap[g7]? =some (.cells #[.int .u16 m.hd.id,.bool m.hd.qr,.int .u8 m.hd.op,.bool m.hd.aa,.bool m.hd.tc,.bool m.hd.rd,.bool m.hd.ra,.bool m.hd.z,.bool m.hd.ad,.bool m.hd.cd,.int .u8 m.hd.code,.slice qA m.qs.length qc,.slice aA m.ans.length ac,.slice uA m.auth.length uc,.slice xA m.extra.length xc,.bool m.he,.int .u16 m.ed.size,.int .u8 m.ed.ext,.int .u8 m.ed.ver,.int .u16 m.ed.flags,.slice oA m.ed.opts.length oc] 45):=by rw[dV];exact heap_alloc_new _ _
  have pU:Ext Y (Y.alloc (.cells #[.int .u16 m.hd.id,.bool m.hd.qr,.int .u8 m.hd.op,.bool m.hd.aa,.bool m.hd.tc,.bool m.hd.rd,.bool m.hd.ra,.bool m.hd.z,.bool m.hd.ad,.bool m.hd.cd,.int .u8 m.hd.code,.slice qA m.qs.length qc,.slice aA m.ans.length ac,.slice uA m.auth.length uc,.slice xA m.extra.length xc,.bool m.he,.int .u16 m.ed.size,.int .u8 m.ed.ext,.int .u8 m.ed.ver,.int .u16 m.ed.flags,.slice oA m.ed.opts.length oc] 45)):=(Z5 _).alloc _
  have B7:Y.heap.size≤g7:=by rw[dV];exact Z4 _
  obtain⟨Z,hZ⟩:∃Z,Z=Y.alloc (.cells #[.int .u16 m.hd.id,.bool m.hd.qr,.int .u8 m.hd.op,.bool m.hd.aa,.bool m.hd.tc,.bool m.hd.rd,.bool m.hd.ra,.bool m.hd.z,.bool m.hd.ad,.bool m.hd.cd,.int .u8 m.hd.code,.slice qA m.qs.length qc,.slice aA m.ans.length ac,.slice uA m.auth.length uc,.slice xA m.extra.length xc,.bool m.he,.int .u16 m.ed.size,.int .u8 m.ed.ext,.int .u8 m.ed.ver,.int .u16 m.ed.flags,.slice oA m.ed.opts.length oc] 45):=⟨_,rfl⟩
  rw[←hZ]at r7 pU ⊢;have bN:Ext X0 Z:=pT.trans pU
  clear hZ hz dV;have rr:=Z8 bN r0
  have y0:=za0 (j:=0) rr rfl
  have y1:=za0 (j:=1) rr rfl
  have y2:=za0 (j:=2) rr rfl
  have f0:=za3 (j:=0) rr
  have f1:=za3 (j:=1) rr
  have f2:=za3 (j:=2) rr
  have eb:=(iT.out Z (aD.trans bN)).bad
  have ep:=(iT.out Z (aD.trans bN)).pass
  have fe:0<g1:=Z1 (zi1 he.bad) bG
  have mj:1<g1:=Z1 (zi1 he.pass) bG
  have r1q:=Z8 bN r10
  have k0:=za0 (j:=0) r1q rfl
  have k1:=za0 (j:=1) r1q rfl
  have k2:=za0 (j:=2) r1q rfl
  have Ca:=Z7 (fun V (hV:Ext Z V)=>zxt m (.slice qA m.qs.length qc) (.slice aA m.ans.length ac) (.slice uA m.auth.length uc) (.slice xA m.extra.length xc) (.slice oA m.ed.opts.length oc) n ty cls V (by
   obtain⟨A,c,e,ho⟩:=gt.out.qs
   exact Qus.ext ⟨A,c,e,ho.cap.1,ho.cap.2,ho.rd.lower (Nat.zero_le _)⟩ (pU.trans hV)) (by unfold maxLen;omega) dN.out.qok)
  have m9:=Z7 (fun V=>zxu m (.slice qA m.qs.length qc) (.slice aA m.ans.length ac) (.slice uA m.auth.length uc) (.slice xA m.extra.length xc) (.slice oA m.ed.opts.length oc) V d1 dz)
  have Ef:=Z7 (fun V (hV:Ext Z V)=>zGn (xOf m qA xA oA qc xc oc) n ty cls m.hd.code 0 aA ac uA uc m.ans m.auth V (hg.ext ((aD.trans bN).trans hV)) ((gt.out.ans.recs.lower (Nat.zero_le _)).ext (pU.trans hV)) ((gt.out.auth.recs.lower (Nat.zero_le _)).ext (pU.trans hV)) ⟨by omega,B8⟩ ⟨by omega,B9⟩ (fun r hr=>⟨(d1.ans r hr).1,(d1.ans r hr).2.1⟩) (fun r hr=>⟨(d1.auth r hr).1,(d1.auth r hr).2.1⟩) hn)
  have z1:=za0 (j:=1) r7 rfl
  have z2:=za0 (j:=2) r7 rfl
  by_cases fK:m.hd.qr=true∧m.hd.op=0∧zd1 m n ty cls=true
  ·have wU:=Z7 fK
   obtain⟨i1,i2,i3⟩:=fK
   rw[i1]at z1;rw[i2]at z2;rw[i3]at Ca;have fK:=wU
   clear i1 i2 i3 wU;go_upto_region 4 with(first|(refine za9 (by rfl) 45 (.tmp 7) rfl g7 0 rfl [.int .u16 m.hd.id,.bool m.hd.qr,.int .u8 m.hd.op,.bool m.hd.aa,.bool m.hd.tc,.bool m.hd.rd,.bool m.hd.ra,.bool m.hd.z,.bool m.hd.ad,.bool m.hd.cd,.int .u8 m.hd.code,.slice qA m.qs.length qc,.slice aA m.ans.length ac,.slice uA m.auth.length uc,.slice xA m.extra.length xc,.bool m.he,.int .u16 m.ed.size,.int .u8 m.ed.ext,.int .u8 m.ed.ver,.int .u16 m.ed.flags,.slice oA m.ed.opts.length oc] (zba r7) _ Tryz.underlying45 rfl (by kernel_rfl) ?_)|(go_at_call 123;refine(Ca.out _ (Z5 _)).mono ?_;rintro e W1 ⟨rfl,ae⟩)|fail)
   have r71:=Z8 ae r7
   go_upto_region 5 with(first|(refine za9 (by rfl) 45 (.tmp 7) rfl g7 0 rfl [.int .u16 m.hd.id,.bool m.hd.qr,.int .u8 m.hd.op,.bool m.hd.aa,.bool m.hd.tc,.bool m.hd.rd,.bool m.hd.ra,.bool m.hd.z,.bool m.hd.ad,.bool m.hd.cd,.int .u8 m.hd.code,.slice qA m.qs.length qc,.slice aA m.ans.length ac,.slice uA m.auth.length uc,.slice xA m.extra.length xc,.bool m.he,.int .u16 m.ed.size,.int .u8 m.ed.ext,.int .u8 m.ed.ver,.int .u16 m.ed.flags,.slice oA m.ed.opts.length oc] (zba r71) _ Tryz.underlying45 rfl (by kernel_rfl) ?_)|(go_at_call 124;refine(m9.out _).mono ?_;rintro e W2 ⟨rfl,ah⟩)|fail)
   have kH:Ext Z W2:=ae.trans ah
   have bN:Ext X0 W2:=bN.trans kH
   clear y0 y1 y2 f0 f1 f2 k0 k1 k2 eb ep r71 z1 z2;have rr:=Z8 (kH) rr
   have r7:=Z8 (kH) r7
   have r1q:=Z8 (kH) r1q
   have y0:=za0 (j:=0) rr rfl
   have y1:=za0 (j:=1) rr rfl
   have y2:=za0 (j:=2) rr rfl
   have f0:=za3 (j:=0) rr
   have f1:=za3 (j:=1) rr
   have f2:=za3 (j:=2) rr
   have k0:=za0 (j:=0) r1q rfl
   have k1:=za0 (j:=1) r1q rfl
   have k2:=za0 (j:=2) r1q rfl
   have eb:=(iT.out W2 (aD.trans bN)).bad
   have ep:=(iT.out W2 (aD.trans bN)).pass
   have z4:=za0 (j:=4) r7 rfl
   by_cases fm:m.hd.tc=true
   ·rw[fm]at z4;have hR:=Z7 (hR.out.trans (zh5 fK.out (.inl fm)))
    clear fm;go_upto_region 6 with fail
    have hS:W2.drew.cell? ⟨1,0,none⟩=some (zci b):=ep
    refine wp_region_noPanic ?_;refine za6 (S:=(fun V=>V.cell? ⟨1,0,none⟩=some (zci b))) (.take 0 (.take 1 (.run 2 (.take 3 (.take 4 (.done)))))) (by kernel_rfl) (by kernel_rfl) (fun _ _ _ _ _ h=>h) (hS) ?_
    repeat((with_reducible refine za7 ?_);first
     |(refine zb2 (a':=?_) ⟨_,hS⟩ (by rfl) rfl (by kernel_rfl) rfl ?_ ?_;rotate_left;(focus(intro V Q' hV hq;(repeat(first|go_guarded|go_skip|go_step));(first|exact hq|exact wpList_nil hq)))))
    refine za5 (by rfl) (fun K hK=>?_)
    go_simp;refine hK.out _ _ ?_ ?_
    ·exact zj0 ep (Nat.ne_of_lt mj)
    clear hK K
    (try simp only[ap])
    repeat((with_reducible refine za7 ?_);first
     |(refine zb2 (a':=?_) ⟨_,hS⟩ (by rfl) rfl (by kernel_rfl) rfl ?_ ?_;rotate_left;(focus(intro V Q' hV hq;(repeat(first|go_guarded|go_skip|go_step));(first|exact hq|exact wpList_nil hq)))))
    refine zag ?_;refine NoPanic.normal ?_;obtain⟨U,hU⟩:∃U,U=(((W2.setCell ⟨g1,0,none⟩ (.int .u8 0)).setCell ⟨g1,1,none⟩ (.slice none 0 0)).setCell ⟨g1,2,none⟩ (.slice none 0 0)).drew:=⟨_,rfl⟩
    rw[←hU];have ru:U.heap[g1]? =some (.cells #[.int .u8 0,.slice none 0 0,.slice none 0 0] 24):=by rw[hU];exact za2 (za2 (za2 rr 0 _) 1 _) 2 _
    have cu:Ext w U:=by rw[hU];exact((((aD.trans bN).setCell bG _).setCell bG _).setCell bG _).drew
    have u0:=za0 (j:=0) ru rfl
    have u1:=za0 (j:=1) ru rfl
    have u2:=za0 (j:=2) ru rfl
    clear hU rr y0 y1 y2 f0 f1 f2;go_wp2_with fail;refine bodyPost_ret (zc5 rfl _ _ g1 _ _ _ _ rfl ru Tryz.underlying24 rfl (by kernel_rfl)) rfl ?_
    show zf7 (replyOf d n ty cls) a b w (.returned (.tuple #[.agg #[.int .u8 0,.slice none 0 0,.slice none 0 0],.int .u32 0,zci b])) U
    rw[hR.out];exact zpb cu
   have tP:m.hd.tc=false:=by cases h:m.hd.tc;rfl;exact absurd h fm
   rw[tP]at z4;by_cases jL:code12 m=0
   ·have hR:=Z7 (hR.out.trans (zjl fK.out tP (.inl jL)))
    rw[jL];clear jL tP fm;go_upto_region 8 with(first|(refine za9 (by rfl) 45 (.tmp 7) rfl g7 0 rfl [.int .u16 m.hd.id,.bool m.hd.qr,.int .u8 m.hd.op,.bool m.hd.aa,.bool m.hd.tc,.bool m.hd.rd,.bool m.hd.ra,.bool m.hd.z,.bool m.hd.ad,.bool m.hd.cd,.int .u8 m.hd.code,.slice qA m.qs.length qc,.slice aA m.ans.length ac,.slice uA m.auth.length uc,.slice xA m.extra.length xc,.bool m.he,.int .u16 m.ed.size,.int .u8 m.ed.ext,.int .u8 m.ed.ver,.int .u16 m.ed.flags,.slice oA m.ed.opts.length oc] (zba r7) _ Tryz.underlying45 rfl (by kernel_rfl) ?_)|(go_at_call 125;refine(Ef.out _ kH).mono ?_;rintro e W3 ⟨vs,vo,rfl,pV,pW,gK,ao⟩;have sy:=Z7 pV;have sC:=Z7 pW;obtain⟨ps,pA,pc,_,rfl,_,_⟩:=pV;obtain⟨po,tA,tc,_,rfl,_,_⟩:=pW)|fail)
    have HV:=Z7 (show ∃R,R=verOf n ty cls m.hd.code m.ans m.auth from⟨_,rfl⟩)
    obtain⟨R,wV⟩:=HV.out
    rw[←wV]at hR sy sC ⊢;clear wV HV;have mm:Ext X0 W3:=bN.trans ao
    by_cases cG:R.err=0
    ·have hR:=Z7 (hR.out.trans (if_pos cG))
     rw[cG];clear cG;obtain⟨W4,bE⟩:∃W4,W4=W3.alloc (.cells #[.int .u8 R.code,.slice pA ps.length pc,.slice tA po.length tc] 24):=⟨_,rfl⟩
     obtain⟨gv,jw⟩:∃gv,gv=W3.heap.size:=⟨_,rfl⟩
     have rv:W4.heap[gv]? =some (.cells #[.int .u8 R.code,.slice pA ps.length pc,.slice tA po.length tc] 24):=by rw[bE,jw];exact heap_alloc_new _ _
     have aO:Ext W3 W4:=by rw[bE];exact(Z5 _).alloc _
     rw[←bE,←jw];clear bE jw;have eG:=ao.trans aO
     clear y0 y1 y2 f0 f1 f2 k0 k1 k2 eb ep;have rr:=Z8 eG rr
     have y0:=za0 (j:=0) rr rfl
     have y1:=za0 (j:=1) rr rfl
     have y2:=za0 (j:=2) rr rfl
     have f0:=za3 (j:=0) rr
     have f1:=za3 (j:=1) rr
     have f2:=za3 (j:=2) rr
     have v0:=za0 (j:=0) rv rfl
     have v1:=za0 (j:=1) rv rfl
     have v2:=za0 (j:=2) rv rfl
     have mn:g1<W2.heap.size:=Z1 (Z9 r0) bN.size
     go_wp2_with fail;obtain⟨U,hU⟩:∃U,U=(((W4.setCell ⟨g1,0,none⟩ (.int .u8 R.code)).setCell ⟨g1,1,none⟩ (.slice pA ps.length pc)).setCell ⟨g1,2,none⟩ (.slice tA po.length tc)):=⟨_,rfl⟩
     rw[←hU];have ru:U.heap[g1]? =some (.cells #[.int .u8 R.code,.slice pA ps.length pc,.slice tA po.length tc] 24):=by rw[hU];exact za2 (za2 (za2 rr 0 _) 1 _) 2 _
     have sD:Ext w W4:=aD.trans (mm.trans aO)
     have cu:Ext w U:=by rw[hU];exact((sD.setCell bG _).setCell bG _).setCell bG _
     refine bodyPost_ret (zc5 rfl _ _ g1 _ _ _ _ rfl ru Tryz.underlying24 rfl (by kernel_rfl)) rfl ?_
     show zf7 (replyOf d n ty cls) a b w (.returned (.tuple #[.agg #[.int .u8 R.code,.slice pA ps.length pc,.slice tA po.length tc],.int .u32 R.time,.nilIface])) U
     rw[hR.out];have ak:w.heap.size≤W2.heap.size:=(aD.trans bN).size
     refine⟨_,_,_,rfl,.inr (.inr ⟨rfl,rfl⟩),?_,?_,gK,cu⟩
     ·rw[hU];exact(zc7 (sy.out.ext aO) mn _ _ _).lower ak
     ·rw[hU];exact(zc7 (sC.out.ext aO) mn _ _ _).lower ak
    ·have hR:=Z7 (hR.out.trans (if_neg cG))
     have aJ:((R.err:Int)==0)=false:=by rw[beq_eq_false_iff_ne];omega
     generalize (R.err:Int)=z at*;have ax:¬z=0:=by rw[beq_eq_false_iff_ne]at aJ;exact aJ
     have Eg:decide (z=0)=false:=decide_eq_false ax
     clear cG;obtain⟨W4,bE⟩:∃W4,W4=W3.alloc (.cells #[.int .u8 R.code,.slice pA ps.length pc,.slice tA po.length tc] 24):=⟨_,rfl⟩
     have aO:Ext W3 W4:=by rw[bE];exact(Z5 _).alloc _
     rw[←bE];clear bE;have eG:=ao.trans aO
     have bN:=mm.trans aO
     clear y0 y1 y2 f0 f1 f2 k0 k1 k2 eb ep;have rr:=Z8 eG rr
     have y0:=za0 (j:=0) rr rfl
     have y1:=za0 (j:=1) rr rfl
     have y2:=za0 (j:=2) rr rfl
     have f0:=za3 (j:=0) rr
     have f1:=za3 (j:=1) rr
     have f2:=za3 (j:=2) rr
     have eb:=(iT.out W4 (aD.trans bN)).bad
     go_upto_region 9 with fail
     have hS:W4.drew.cell? ⟨0,0,none⟩=some (zci a):=eb
     refine wp_region_noPanic ?_;refine za6 (S:=(fun V=>V.cell? ⟨0,0,none⟩=some (zci a))) (.take 0 (.take 1 (.run 2 (.take 3 (.take 4 (.done)))))) (by kernel_rfl) (by kernel_rfl) (fun _ _ _ _ _ h=>h) (hS) ?_
     repeat((with_reducible refine za7 ?_);first
      |(refine zb2 (a':=?_) ⟨_,hS⟩ (by rfl) rfl (by kernel_rfl) rfl ?_ ?_;rotate_left;(focus(intro V Q' hV hq;(repeat(first|go_guarded|go_skip|go_step));(first|exact hq|exact wpList_nil hq)))))
     refine za5 (by rfl) (fun K hK=>?_)
     go_simp;refine hK.out _ _ ?_ ?_
     ·exact zj0 eb (Nat.ne_of_lt fe)
     clear hK K
     (try simp only[ap])
     repeat((with_reducible refine za7 ?_);first
      |(refine zb2 (a':=?_) ⟨_,hS⟩ (by rfl) rfl (by kernel_rfl) rfl ?_ ?_;rotate_left;(focus(intro V Q' hV hq;(repeat(first|go_guarded|go_skip|go_step));(first|exact hq|exact wpList_nil hq)))))
     refine zag ?_;refine NoPanic.normal ?_;obtain⟨U,hU⟩:∃U,U=(((W4.setCell ⟨g1,0,none⟩ (.int .u8 0)).setCell ⟨g1,1,none⟩ (.slice none 0 0)).setCell ⟨g1,2,none⟩ (.slice none 0 0)).drew:=⟨_,rfl⟩
     rw[←hU];have ru:U.heap[g1]? =some (.cells #[.int .u8 0,.slice none 0 0,.slice none 0 0] 24):=by rw[hU];exact za2 (za2 (za2 rr 0 _) 1 _) 2 _
     have cu:Ext w U:=by rw[hU];exact((((aD.trans bN).setCell bG _).setCell bG _).setCell bG _).drew
     have u0:=za0 (j:=0) ru rfl
     have u1:=za0 (j:=1) ru rfl
     have u2:=za0 (j:=2) ru rfl
     clear hU rr y0 y1 y2 f0 f1 f2;go_wp2_with fail;refine bodyPost_ret (zc5 rfl _ _ g1 _ _ _ _ rfl ru Tryz.underlying24 rfl (by kernel_rfl)) rfl ?_
     show zf7 (replyOf d n ty cls) a b w (.returned (.tuple #[.agg #[.int .u8 0,.slice none 0 0,.slice none 0 0],.int .u32 0,zci a])) U
     rw[hR.out];exact zg4 cu
   by_cases ei:code12 m=3
   ·have hR:=Z7 (hR.out.trans (zjl fK.out tP (.inr ei)))
    rw[ei];clear jL ei tP fm;go_upto_region 8 with(first|(refine za9 (by rfl) 45 (.tmp 7) rfl g7 0 rfl [.int .u16 m.hd.id,.bool m.hd.qr,.int .u8 m.hd.op,.bool m.hd.aa,.bool m.hd.tc,.bool m.hd.rd,.bool m.hd.ra,.bool m.hd.z,.bool m.hd.ad,.bool m.hd.cd,.int .u8 m.hd.code,.slice qA m.qs.length qc,.slice aA m.ans.length ac,.slice uA m.auth.length uc,.slice xA m.extra.length xc,.bool m.he,.int .u16 m.ed.size,.int .u8 m.ed.ext,.int .u8 m.ed.ver,.int .u16 m.ed.flags,.slice oA m.ed.opts.length oc] (zba r7) _ Tryz.underlying45 rfl (by kernel_rfl) ?_)|(go_at_call 125;refine(Ef.out _ kH).mono ?_;rintro e W3 ⟨vs,vo,rfl,pV,pW,gK,ao⟩;have sy:=Z7 pV;have sC:=Z7 pW;obtain⟨ps,pA,pc,_,rfl,_,_⟩:=pV;obtain⟨po,tA,tc,_,rfl,_,_⟩:=pW)|fail)
    have HV:=Z7 (show ∃R,R=verOf n ty cls m.hd.code m.ans m.auth from⟨_,rfl⟩)
    obtain⟨R,wV⟩:=HV.out
    rw[←wV]at hR sy sC ⊢;clear wV HV;have mm:Ext X0 W3:=bN.trans ao
    by_cases cG:R.err=0
    ·have hR:=Z7 (hR.out.trans (if_pos cG))
     rw[cG];clear cG;obtain⟨W4,bE⟩:∃W4,W4=W3.alloc (.cells #[.int .u8 R.code,.slice pA ps.length pc,.slice tA po.length tc] 24):=⟨_,rfl⟩
     obtain⟨gv,jw⟩:∃gv,gv=W3.heap.size:=⟨_,rfl⟩
     have rv:W4.heap[gv]? =some (.cells #[.int .u8 R.code,.slice pA ps.length pc,.slice tA po.length tc] 24):=by rw[bE,jw];exact heap_alloc_new _ _
     have aO:Ext W3 W4:=by rw[bE];exact(Z5 _).alloc _
     rw[←bE,←jw];clear bE jw;have eG:=ao.trans aO
     clear y0 y1 y2 f0 f1 f2 k0 k1 k2 eb ep;have rr:=Z8 eG rr
     have y0:=za0 (j:=0) rr rfl
     have y1:=za0 (j:=1) rr rfl
     have y2:=za0 (j:=2) rr rfl
     have f0:=za3 (j:=0) rr
     have f1:=za3 (j:=1) rr
     have f2:=za3 (j:=2) rr
     have v0:=za0 (j:=0) rv rfl
     have v1:=za0 (j:=1) rv rfl
     have v2:=za0 (j:=2) rv rfl
     have mn:g1<W2.heap.size:=Z1 (Z9 r0) bN.size
     go_wp2_with fail;obtain⟨U,hU⟩:∃U,U=(((W4.setCell ⟨g1,0,none⟩ (.int .u8 R.code)).setCell ⟨g1,1,none⟩ (.slice pA ps.length pc)).setCell ⟨g1,2,none⟩ (.slice tA po.length tc)):=⟨_,rfl⟩
     rw[←hU];have ru:U.heap[g1]? =some (.cells #[.int .u8 R.code,.slice pA ps.length pc,.slice tA po.length tc] 24):=by rw[hU];exact za2 (za2 (za2 rr 0 _) 1 _) 2 _
     have sD:Ext w W4:=aD.trans (mm.trans aO)
     have cu:Ext w U:=by rw[hU];exact((sD.setCell bG _).setCell bG _).setCell bG _
     refine bodyPost_ret (zc5 rfl _ _ g1 _ _ _ _ rfl ru Tryz.underlying24 rfl (by kernel_rfl)) rfl ?_
     show zf7 (replyOf d n ty cls) a b w (.returned (.tuple #[.agg #[.int .u8 R.code,.slice pA ps.length pc,.slice tA po.length tc],.int .u32 R.time,.nilIface])) U
     rw[hR.out];have ak:w.heap.size≤W2.heap.size:=(aD.trans bN).size
     refine⟨_,_,_,rfl,.inr (.inr ⟨rfl,rfl⟩),?_,?_,gK,cu⟩
     ·rw[hU];exact(zc7 (sy.out.ext aO) mn _ _ _).lower ak
     ·rw[hU];exact(zc7 (sC.out.ext aO) mn _ _ _).lower ak
    ·have hR:=Z7 (hR.out.trans (if_neg cG))
     have aJ:((R.err:Int)==0)=false:=by rw[beq_eq_false_iff_ne];omega
     generalize (R.err:Int)=z at*;have ax:¬z=0:=by rw[beq_eq_false_iff_ne]at aJ;exact aJ
     have Eg:decide (z=0)=false:=decide_eq_false ax
     clear cG;obtain⟨W4,bE⟩:∃W4,W4=W3.alloc (.cells #[.int .u8 R.code,.slice pA ps.length pc,.slice tA po.length tc] 24):=⟨_,rfl⟩
     have aO:Ext W3 W4:=by rw[bE];exact(Z5 _).alloc _
     rw[←bE];clear bE;have eG:=ao.trans aO
     have bN:=mm.trans aO
     clear y0 y1 y2 f0 f1 f2 k0 k1 k2 eb ep;have rr:=Z8 eG rr
     have y0:=za0 (j:=0) rr rfl
     have y1:=za0 (j:=1) rr rfl
     have y2:=za0 (j:=2) rr rfl
     have f0:=za3 (j:=0) rr
     have f1:=za3 (j:=1) rr
     have f2:=za3 (j:=2) rr
     have eb:=(iT.out W4 (aD.trans bN)).bad
     go_upto_region 9 with fail
     have hS:W4.drew.cell? ⟨0,0,none⟩=some (zci a):=eb
     refine wp_region_noPanic ?_;refine za6 (S:=(fun V=>V.cell? ⟨0,0,none⟩=some (zci a))) (.take 0 (.take 1 (.run 2 (.take 3 (.take 4 (.done)))))) (by kernel_rfl) (by kernel_rfl) (fun _ _ _ _ _ h=>h) (hS) ?_
     repeat((with_reducible refine za7 ?_);first
      |(refine zb2 (a':=?_) ⟨_,hS⟩ (by rfl) rfl (by kernel_rfl) rfl ?_ ?_;rotate_left;(focus(intro V Q' hV hq;(repeat(first|go_guarded|go_skip|go_step));(first|exact hq|exact wpList_nil hq)))))
     refine za5 (by rfl) (fun K hK=>?_)
     go_simp;refine hK.out _ _ ?_ ?_
     ·exact zj0 eb (Nat.ne_of_lt fe)
     clear hK K
     (try simp only[ap])
     repeat((with_reducible refine za7 ?_);first
      |(refine zb2 (a':=?_) ⟨_,hS⟩ (by rfl) rfl (by kernel_rfl) rfl ?_ ?_;rotate_left;(focus(intro V Q' hV hq;(repeat(first|go_guarded|go_skip|go_step));(first|exact hq|exact wpList_nil hq)))))
     refine zag ?_;refine NoPanic.normal ?_;obtain⟨U,hU⟩:∃U,U=(((W4.setCell ⟨g1,0,none⟩ (.int .u8 0)).setCell ⟨g1,1,none⟩ (.slice none 0 0)).setCell ⟨g1,2,none⟩ (.slice none 0 0)).drew:=⟨_,rfl⟩
     rw[←hU];have ru:U.heap[g1]? =some (.cells #[.int .u8 0,.slice none 0 0,.slice none 0 0] 24):=by rw[hU];exact za2 (za2 (za2 rr 0 _) 1 _) 2 _
     have cu:Ext w U:=by rw[hU];exact((((aD.trans bN).setCell bG _).setCell bG _).setCell bG _).drew
     have u0:=za0 (j:=0) ru rfl
     have u1:=za0 (j:=1) ru rfl
     have u2:=za0 (j:=2) ru rfl
     clear hU rr y0 y1 y2 f0 f1 f2;go_wp2_with fail;refine bodyPost_ret (zc5 rfl _ _ g1 _ _ _ _ rfl ru Tryz.underlying24 rfl (by kernel_rfl)) rfl ?_
     show zf7 (replyOf d n ty cls) a b w (.returned (.tuple #[.agg #[.int .u8 0,.slice none 0 0,.slice none 0 0],.int .u32 0,zci a])) U
     rw[hR.out];exact zg4 cu
   have hR:=Z7 (hR.out.trans (zh5 fK.out (.inr ⟨jL,ei⟩)))
   generalize code12 m=cd at*;have q0:decide (cd=0)=false:=decide_eq_false jL
   have q3:decide (cd=3)=false:=decide_eq_false ei
   have n0:(cd !=0)=true:=by rw[bne_iff_ne];exact jL
   have n3:(cd !=3)=true:=by rw[bne_iff_ne];exact ei
   have n4:¬((cd !=0)=false∨(cd !=3)=false):=by rw[n0,n3];simp
   clear tP fm;go_upto_region 6 with fail
   have hS:W2.drew.cell? ⟨1,0,none⟩=some (zci b):=ep
   refine wp_region_noPanic ?_;refine za6 (S:=(fun V=>V.cell? ⟨1,0,none⟩=some (zci b))) (.take 0 (.take 1 (.run 2 (.take 3 (.take 4 (.done)))))) (by kernel_rfl) (by kernel_rfl) (fun _ _ _ _ _ h=>h) (hS) ?_
   repeat((with_reducible refine za7 ?_);first
    |(refine zb2 (a':=?_) ⟨_,hS⟩ (by rfl) rfl (by kernel_rfl) rfl ?_ ?_;rotate_left;(focus(intro V Q' hV hq;(repeat(first|go_guarded|go_skip|go_step));(first|exact hq|exact wpList_nil hq)))))
   refine za5 (by rfl) (fun K hK=>?_)
   go_simp;refine hK.out _ _ ?_ ?_
   ·exact zj0 ep (Nat.ne_of_lt mj)
   clear hK K
   (try simp only[ap])
   repeat((with_reducible refine za7 ?_);first
    |(refine zb2 (a':=?_) ⟨_,hS⟩ (by rfl) rfl (by kernel_rfl) rfl ?_ ?_;rotate_left;(focus(intro V Q' hV hq;(repeat(first|go_guarded|go_skip|go_step));(first|exact hq|exact wpList_nil hq)))))
   refine zag ?_;refine NoPanic.normal ?_;obtain⟨U,hU⟩:∃U,U=(((W2.setCell ⟨g1,0,none⟩ (.int .u8 0)).setCell ⟨g1,1,none⟩ (.slice none 0 0)).setCell ⟨g1,2,none⟩ (.slice none 0 0)).drew:=⟨_,rfl⟩
   rw[←hU];have ru:U.heap[g1]? =some (.cells #[.int .u8 0,.slice none 0 0,.slice none 0 0] 24):=by rw[hU];exact za2 (za2 (za2 rr 0 _) 1 _) 2 _
   have cu:Ext w U:=by rw[hU];exact((((aD.trans bN).setCell bG _).setCell bG _).setCell bG _).drew
   have u0:=za0 (j:=0) ru rfl
   have u1:=za0 (j:=1) ru rfl
   have u2:=za0 (j:=2) ru rfl
   clear hU rr y0 y1 y2 f0 f1 f2;go_wp2_with fail;refine bodyPost_ret (zc5 rfl _ _ g1 _ _ _ _ rfl ru Tryz.underlying24 rfl (by kernel_rfl)) rfl ?_
   show zf7 (replyOf d n ty cls) a b w (.returned (.tuple #[.agg #[.int .u8 0,.slice none 0 0,.slice none 0 0],.int .u32 0,zci b])) U
   rw[hR.out];exact zpb cu
  ·have hR:=Z7 (hR.out.trans (zph fK))
   have bp:∀B,zd1 m n ty cls=B→¬(m.hd.qr=true∧m.hd.op=0∧B=true):=fun B hB hx=>fK ⟨hx.1,hx.2.1,hB.trans hx.2.2⟩
   generalize hB:zd1 m n ty cls=B at*;have bp:=bp B rfl
   clear fK hB;rcases fT:m.hd.qr with _|_
   ·rw[fT]at z1;clear fT bp;go_upto_region 3 with fail
    have hS:Z.drew.cell? ⟨0,0,none⟩=some (zci a):=eb
    refine wp_region_noPanic ?_;refine za6 (S:=(fun V=>V.cell? ⟨0,0,none⟩=some (zci a))) (.take 0 (.take 1 (.run 2 (.take 3 (.take 4 (.done)))))) (by kernel_rfl) (by kernel_rfl) (fun _ _ _ _ _ h=>h) (hS) ?_
    repeat((with_reducible refine za7 ?_);first
     |(refine zb2 (a':=?_) ⟨_,hS⟩ (by rfl) rfl (by kernel_rfl) rfl ?_ ?_;rotate_left;(focus(intro V Q' hV hq;(repeat(first|go_guarded|go_skip|go_step));(first|exact hq|exact wpList_nil hq)))))
    refine za5 (by rfl) (fun K hK=>?_)
    go_simp;refine hK.out _ _ ?_ ?_
    ·exact zj0 eb (Nat.ne_of_lt fe)
    clear hK K
    (try simp only[ap])
    repeat((with_reducible refine za7 ?_);first
     |(refine zb2 (a':=?_) ⟨_,hS⟩ (by rfl) rfl (by kernel_rfl) rfl ?_ ?_;rotate_left;(focus(intro V Q' hV hq;(repeat(first|go_guarded|go_skip|go_step));(first|exact hq|exact wpList_nil hq)))))
    refine zag ?_;refine NoPanic.normal ?_;obtain⟨U,hU⟩:∃U,U=(((Z.setCell ⟨g1,0,none⟩ (.int .u8 0)).setCell ⟨g1,1,none⟩ (.slice none 0 0)).setCell ⟨g1,2,none⟩ (.slice none 0 0)).drew:=⟨_,rfl⟩
    rw[←hU];have ru:U.heap[g1]? =some (.cells #[.int .u8 0,.slice none 0 0,.slice none 0 0] 24):=by rw[hU];exact za2 (za2 (za2 rr 0 _) 1 _) 2 _
    have cu:Ext w U:=by rw[hU];exact((((aD.trans bN).setCell bG _).setCell bG _).setCell bG _).drew
    have u0:=za0 (j:=0) ru rfl
    have u1:=za0 (j:=1) ru rfl
    have u2:=za0 (j:=2) ru rfl
    clear hU rr y0 y1 y2 f0 f1 f2;go_wp2_with fail;refine bodyPost_ret (zc5 rfl _ _ g1 _ _ _ _ rfl ru Tryz.underlying24 rfl (by kernel_rfl)) rfl ?_
    show zf7 (replyOf d n ty cls) a b w (.returned (.tuple #[.agg #[.int .u8 0,.slice none 0 0,.slice none 0 0],.int .u32 0,zci a])) U
    rw[hR.out];exact zg4 cu
   rw[fT]at z1;by_cases bL:m.hd.op=0
   ·rw[bL]at z2;obtain rfl:B=false:=by cases B;rfl;exact absurd ⟨fT,bL,rfl⟩ bp
    clear fT bL bp;go_upto_region 3 with(first|(refine za9 (by rfl) 45 (.tmp 7) rfl g7 0 rfl [.int .u16 m.hd.id,.bool m.hd.qr,.int .u8 m.hd.op,.bool m.hd.aa,.bool m.hd.tc,.bool m.hd.rd,.bool m.hd.ra,.bool m.hd.z,.bool m.hd.ad,.bool m.hd.cd,.int .u8 m.hd.code,.slice qA m.qs.length qc,.slice aA m.ans.length ac,.slice uA m.auth.length uc,.slice xA m.extra.length xc,.bool m.he,.int .u16 m.ed.size,.int .u8 m.ed.ext,.int .u8 m.ed.ver,.int .u16 m.ed.flags,.slice oA m.ed.opts.length oc] (zba r7) _ Tryz.underlying45 rfl (by kernel_rfl) ?_)|(go_at_call 123;refine(Ca.out _ (Z5 _)).mono ?_;rintro e W1 ⟨rfl,ae⟩)|fail)
    have bN:Ext X0 W1:=bN.trans ae
    clear y0 y1 y2 f0 f1 f2 k0 k1 k2 eb ep z1 z2;have rr:=Z8 (ae) rr
    have r7:=Z8 (ae) r7
    have r1q:=Z8 (ae) r1q
    have y0:=za0 (j:=0) rr rfl
    have y1:=za0 (j:=1) rr rfl
    have y2:=za0 (j:=2) rr rfl
    have f0:=za3 (j:=0) rr
    have f1:=za3 (j:=1) rr
    have f2:=za3 (j:=2) rr
    have k0:=za0 (j:=0) r1q rfl
    have k1:=za0 (j:=1) r1q rfl
    have k2:=za0 (j:=2) r1q rfl
    have eb:=(iT.out W1 (aD.trans bN)).bad
    have ep:=(iT.out W1 (aD.trans bN)).pass
    go_upto_region 3 with fail
    have hS:W1.drew.cell? ⟨0,0,none⟩=some (zci a):=eb
    refine wp_region_noPanic ?_;refine za6 (S:=(fun V=>V.cell? ⟨0,0,none⟩=some (zci a))) (.take 0 (.take 1 (.run 2 (.take 3 (.take 4 (.done)))))) (by kernel_rfl) (by kernel_rfl) (fun _ _ _ _ _ h=>h) (hS) ?_
    repeat((with_reducible refine za7 ?_);first
     |(refine zb2 (a':=?_) ⟨_,hS⟩ (by rfl) rfl (by kernel_rfl) rfl ?_ ?_;rotate_left;(focus(intro V Q' hV hq;(repeat(first|go_guarded|go_skip|go_step));(first|exact hq|exact wpList_nil hq)))))
    refine za5 (by rfl) (fun K hK=>?_)
    go_simp;refine hK.out _ _ ?_ ?_
    ·exact zj0 eb (Nat.ne_of_lt fe)
    clear hK K
    (try simp only[ap])
    repeat((with_reducible refine za7 ?_);first
     |(refine zb2 (a':=?_) ⟨_,hS⟩ (by rfl) rfl (by kernel_rfl) rfl ?_ ?_;rotate_left;(focus(intro V Q' hV hq;(repeat(first|go_guarded|go_skip|go_step));(first|exact hq|exact wpList_nil hq)))))
    refine zag ?_;refine NoPanic.normal ?_;obtain⟨U,hU⟩:∃U,U=(((W1.setCell ⟨g1,0,none⟩ (.int .u8 0)).setCell ⟨g1,1,none⟩ (.slice none 0 0)).setCell ⟨g1,2,none⟩ (.slice none 0 0)).drew:=⟨_,rfl⟩
    rw[←hU];have ru:U.heap[g1]? =some (.cells #[.int .u8 0,.slice none 0 0,.slice none 0 0] 24):=by rw[hU];exact za2 (za2 (za2 rr 0 _) 1 _) 2 _
    have cu:Ext w U:=by rw[hU];exact((((aD.trans bN).setCell bG _).setCell bG _).setCell bG _).drew
    have u0:=za0 (j:=0) ru rfl
    have u1:=za0 (j:=1) ru rfl
    have u2:=za0 (j:=2) ru rfl
    clear hU rr y0 y1 y2 f0 f1 f2;go_wp2_with fail;refine bodyPost_ret (zc5 rfl _ _ g1 _ _ _ _ rfl ru Tryz.underlying24 rfl (by kernel_rfl)) rfl ?_
    show zf7 (replyOf d n ty cls) a b w (.returned (.tuple #[.agg #[.int .u8 0,.slice none 0 0,.slice none 0 0],.int .u32 0,zci a])) U
    rw[hR.out];exact zg4 cu
   ·have wW:decide (m.hd.op=0)=false:=decide_eq_false bL
    clear fT bp;go_upto_region 3 with fail
    have hS:Z.drew.cell? ⟨0,0,none⟩=some (zci a):=eb
    refine wp_region_noPanic ?_;refine za6 (S:=(fun V=>V.cell? ⟨0,0,none⟩=some (zci a))) (.take 0 (.take 1 (.run 2 (.take 3 (.take 4 (.done)))))) (by kernel_rfl) (by kernel_rfl) (fun _ _ _ _ _ h=>h) (hS) ?_
    repeat((with_reducible refine za7 ?_);first
     |(refine zb2 (a':=?_) ⟨_,hS⟩ (by rfl) rfl (by kernel_rfl) rfl ?_ ?_;rotate_left;(focus(intro V Q' hV hq;(repeat(first|go_guarded|go_skip|go_step));(first|exact hq|exact wpList_nil hq)))))
    refine za5 (by rfl) (fun K hK=>?_)
    go_simp;refine hK.out _ _ ?_ ?_
    ·exact zj0 eb (Nat.ne_of_lt fe)
    clear hK K
    (try simp only[ap])
    repeat((with_reducible refine za7 ?_);first
     |(refine zb2 (a':=?_) ⟨_,hS⟩ (by rfl) rfl (by kernel_rfl) rfl ?_ ?_;rotate_left;(focus(intro V Q' hV hq;(repeat(first|go_guarded|go_skip|go_step));(first|exact hq|exact wpList_nil hq)))))
    refine zag ?_;refine NoPanic.normal ?_;obtain⟨U,hU⟩:∃U,U=(((Z.setCell ⟨g1,0,none⟩ (.int .u8 0)).setCell ⟨g1,1,none⟩ (.slice none 0 0)).setCell ⟨g1,2,none⟩ (.slice none 0 0)).drew:=⟨_,rfl⟩
    rw[←hU];have ru:U.heap[g1]? =some (.cells #[.int .u8 0,.slice none 0 0,.slice none 0 0] 24):=by rw[hU];exact za2 (za2 (za2 rr 0 _) 1 _) 2 _
    have cu:Ext w U:=by rw[hU];exact((((aD.trans bN).setCell bG _).setCell bG _).setCell bG _).drew
    have u0:=za0 (j:=0) ru rfl
    have u1:=za0 (j:=1) ru rfl
    have u2:=za0 (j:=2) ru rfl
    clear hU rr y0 y1 y2 f0 f1 f2;go_wp2_with fail;refine bodyPost_ret (zc5 rfl _ _ g1 _ _ _ _ rfl ru Tryz.underlying24 rfl (by kernel_rfl)) rfl ?_
    show zf7 (replyOf d n ty cls) a b w (.returned (.tuple #[.agg #[.int .u8 0,.slice none 0 0,.slice none 0 0],.int .u32 0,zci a])) U
    rw[hR.out];exact zg4 cu
def zmm (R:ReplyD) (w:World) (e:Ending) (w':World):Prop:=
 ∃vs vo,e=.returned (.agg #[.int .u8 R.kind,.int .u8 R.ver.code,vs,vo,.int .u32 R.ver.time])∧OSets w' w.heap.size vs R.ver.sets∧OSets w' w.heap.size vo R.ver.soa∧(vo.ownBlock=none∨vo.ownBlock≠vs.ownBlock)∧Ext w w'
theorem zyv (d n:List UInt8) (ty cls:Int):replyOf d n ty cls=.bad∨replyOf d n ty cls=.pass∨(replyOf d n ty cls).kind=3:=by
 unfold replyOf;split
 ·exact .inl rfl
 unfold zfn;split
 ·split
  ·exact .inr (.inl rfl)
  ·split
   ·exact .inr (.inr rfl)
   ·exact .inl rfl
 ·exact .inl rfl
theorem zp7 {w:World} {lo g:Nat} {v:Value} {l:List SetD} (h:OSets w lo v l) (hg:g<lo) (a b c d e:Value):OSets (((((w.setCell ⟨g,0,none⟩ a).setCell ⟨g,1,none⟩ b).setCell ⟨g,2,none⟩ c).setCell ⟨g,3,none⟩ d).setCell ⟨g,4,none⟩ e) lo v l:=
 zhh (zhh (zc7 h hg a b c) hg d) hg e
theorem zgd (d n:List UInt8) (ty cls:Int) (a b:Addr) (w:World) (hg:Laid w) (hb:BitsAt w) (he:ErrsAt w a b) (hd:d.length≤16384) (hn:n.length≤1048576):
 Calls Tryz.prog 27 #[.agg #[S n,.int .u16 ty,.int .u16 cls],S d] w (zmm (replyOf d n ty cls) w):=by
 have HK:=Z7 (zyv d n ty cls)
 obtain⟨X1,aV⟩:∃X1,X1=w.alloc (.cells #[S n,.int .u16 ty,.int .u16 cls] 32):=⟨_,rfl⟩
 obtain⟨X0,ar⟩:∃X0,X0=X1.alloc (.cells #[.int .u8 0,.int .u8 0,.slice none 0 0,.slice none 0 0,.int .u32 0] 73):=⟨_,rfl⟩
 obtain⟨g4,cY⟩:∃g4,g4=X1.heap.size:=⟨_,rfl⟩
 have r1:X1.heap[w.heap.size]? =some (.cells #[S n,.int .u16 ty,.int .u16 cls] 32):=by rw[aV];exact heap_alloc_new _ _
 have r0:X0.heap[g4]? =some (.cells #[.int .u8 0,.int .u8 0,.slice none 0 0,.slice none 0 0,.int .u32 0] 73):=by rw[ar,cY];exact heap_alloc_new _ _
 have a7:Ext X1 X0:=by rw[ar];exact(Z5 _).alloc _
 have aD:Ext w X0:=Ext.trans (by rw[aV];exact(Z5 _).alloc _) a7
 have r10:=Z8 a7 r1
 have bH:w.heap.size+1=g4:=by rw[cY,aV];simp
 have aE:w.heap.size≤g4:=by omega
 have kG:=Z7 bH
 have pj:=Z7 (zxv d n ty cls a b X0 (hg.ext aD) (hb.ext aD) (he.ext aD) hd hn)
 generalize hR:replyOf d n ty cls=R at*;clear bH hR;go_enter Tryz.func27,Tryz.ntmps27;go_upto_region 1 with fail
 rw[←aV,←ar];have e1:(w.heap.size+1)=g4:=kG.out
 try rw[e1]
 try rw[←cY]
 clear e1 aV ar cY a7;have k0:=za0 (j:=0) r10 rfl
 have k1:=za0 (j:=1) r10 rfl
 have k2:=za0 (j:=2) r10 rfl
 go_upto_region 2 with(first|(go_at_call 63;refine pj.out.mono ?_;rintro e W3 ⟨vs,vo,er,rfl,jJ,pV,pW,gK,ao⟩;have sy:=Z7 pV;have sC:=Z7 pW;obtain⟨ps,pA,pc,_,rfl,_,_⟩:=pV;obtain⟨po,tA,tc,_,rfl,_,_⟩:=pW)|fail)
 obtain⟨W4,bE⟩:∃W4,W4=W3.alloc (.cells #[.int .u8 R.ver.code,.slice pA ps.length pc,.slice tA po.length tc] 24):=⟨_,rfl⟩
 obtain⟨gv,jw⟩:∃gv,gv=W3.heap.size:=⟨_,rfl⟩
 have rv:W4.heap[gv]? =some (.cells #[.int .u8 R.ver.code,.slice pA ps.length pc,.slice tA po.length tc] 24):=by rw[bE,jw];exact heap_alloc_new _ _
 have aO:Ext W3 W4:=by rw[bE];exact(Z5 _).alloc _
 rw[←bE,←jw];clear bE jw k0 k1 k2;have rr:=r0
 have wY:=ao.trans aO
 have rr:=Z8 (wY) rr
 have y0:=za0 (j:=0) rr rfl
 have y1:=za0 (j:=1) rr rfl
 have y2:=za0 (j:=2) rr rfl
 have y3:=za0 (j:=3) rr rfl
 have y4:=za0 (j:=4) rr rfl
 have f0:=za3 (j:=0) rr
 have f1:=za3 (j:=1) rr
 have f2:=za3 (j:=2) rr
 have f3:=za3 (j:=3) rr
 have f4:=za3 (j:=4) rr
 have oP:Ext w W4:=aD.trans wY
 have iT:=he.ext oP
 have eb:=iT.bad
 have ep:=iT.pass
 obtain⟨ca,ta,hA⟩:=iT.ha
 obtain⟨cb,tb,hB⟩:=iT.hb
 rcases jJ with⟨hk,rfl⟩|⟨hk,rfl⟩|⟨hk,rfl⟩
 ·have kI:=Z7 (show R=.bad from by rcases HK.out with h|h|h;exact h;rw[h]at hk;exact absurd hk (by decide);rw[h]at hk;exact absurd hk (by decide))
  clear hk;go_wp2_with fail;refine(zwh a W4).mono ?_;rintro e W5 ⟨rfl,pX⟩;rw[pX];go_wp2_with fail;obtain⟨U,hU⟩:∃U,U=(((((W4.setCell ⟨g4,0,none⟩ (.int .u8 1)).setCell ⟨g4,1,none⟩ (.int .u8 0)).setCell ⟨g4,2,none⟩ (.slice none 0 0)).setCell ⟨g4,3,none⟩ (.slice none 0 0)).setCell ⟨g4,4,none⟩ (.int .u32 0)):=⟨_,rfl⟩
  rw[←hU];have ru:U.heap[g4]? =some (.cells #[.int .u8 1,.int .u8 0,.slice none 0 0,.slice none 0 0,.int .u32 0] 73):=by rw[hU];exact(za2 (za2 (za2 (za2 (za2 rr 0 _) 1 _) 2 _) 3 _) 4 _)
  have cu:Ext w U:=by rw[hU];exact(((((oP).setCell aE _).setCell aE _).setCell aE _).setCell aE _).setCell aE _
  refine bodyPost_ret (zc6 rfl _ _ g4 _ _ _ _ rfl ru Tryz.underlying73 rfl (by kernel_rfl)) rfl ?_
  show zmm R w (.returned (.agg #[.int .u8 1,.int .u8 0,.slice none 0 0,.slice none 0 0,.int .u32 0])) U
  rw[kI.out];exact⟨_,_,rfl,OSets.nil _ _,OSets.nil _ _,.inl rfl,cu⟩
 ·have kI:=Z7 (show R=.pass from by rcases HK.out with h|h|h;rw[h]at hk;exact absurd hk (by decide);exact h;rw[h]at hk;exact absurd hk (by decide))
  clear hk;go_wp2_with fail;refine(zCz b a cb ca tb ta W4 (fun e=>iT.ne e.symm) hB hA).mono ?_
  rintro e W5 ⟨rfl,pX⟩;rw[pX];go_wp2_with fail;refine(zwh b W4).mono ?_;rintro e W6 ⟨rfl,mQ⟩;rw[mQ];go_wp2_with fail;obtain⟨U,hU⟩:∃U,U=(((((W4.setCell ⟨g4,0,none⟩ (.int .u8 2)).setCell ⟨g4,1,none⟩ (.int .u8 0)).setCell ⟨g4,2,none⟩ (.slice none 0 0)).setCell ⟨g4,3,none⟩ (.slice none 0 0)).setCell ⟨g4,4,none⟩ (.int .u32 0)):=⟨_,rfl⟩
  rw[←hU];have ru:U.heap[g4]? =some (.cells #[.int .u8 2,.int .u8 0,.slice none 0 0,.slice none 0 0,.int .u32 0] 73):=by rw[hU];exact(za2 (za2 (za2 (za2 (za2 rr 0 _) 1 _) 2 _) 3 _) 4 _)
  have cu:Ext w U:=by rw[hU];exact(((((oP).setCell aE _).setCell aE _).setCell aE _).setCell aE _).setCell aE _
  refine bodyPost_ret (zc6 rfl _ _ g4 _ _ _ _ rfl ru Tryz.underlying73 rfl (by kernel_rfl)) rfl ?_
  show zmm R w (.returned (.agg #[.int .u8 2,.int .u8 0,.slice none 0 0,.slice none 0 0,.int .u32 0])) U
  rw[kI.out];exact⟨_,_,rfl,OSets.nil _ _,OSets.nil _ _,.inl rfl,cu⟩
 ·have Iz:=Z7 hk
  clear hk;have v0:=za0 (j:=0) rv rfl
  have v1:=za0 (j:=1) rv rfl
  have v2:=za0 (j:=2) rv rfl
  have wZ:g4<X0.heap.size:=(Z9 r0)
  go_wp2_with fail;refine(zAa a W4).mono ?_;rintro e W5 ⟨rfl,pX⟩;rw[pX];go_wp2_with fail;refine(zAa b W4).mono ?_;rintro e W6 ⟨rfl,mQ⟩;rw[mQ];go_wp2_with fail;obtain⟨U,hU⟩:∃U,U=(((((W4.setCell ⟨g4,0,none⟩ (.int .u8 3)).setCell ⟨g4,1,none⟩ (.int .u8 R.ver.code)).setCell ⟨g4,2,none⟩ (.slice pA ps.length pc)).setCell ⟨g4,3,none⟩ (.slice tA po.length tc)).setCell ⟨g4,4,none⟩ (.int .u32 R.ver.time)):=⟨_,rfl⟩
  rw[←hU];have ru:U.heap[g4]? =some (.cells #[.int .u8 3,.int .u8 R.ver.code,.slice pA ps.length pc,.slice tA po.length tc,.int .u32 R.ver.time] 73):=by rw[hU];exact(za2 (za2 (za2 (za2 (za2 rr 0 _) 1 _) 2 _) 3 _) 4 _)
  have cu:Ext w U:=by rw[hU];exact(((((oP).setCell aE _).setCell aE _).setCell aE _).setCell aE _).setCell aE _
  refine bodyPost_ret (zc6 rfl _ _ g4 _ _ _ _ rfl ru Tryz.underlying73 rfl (by kernel_rfl)) rfl ?_
  show zmm R w (.returned (.agg #[.int .u8 3,.int .u8 R.ver.code,.slice pA ps.length pc,.slice tA po.length tc,.int .u32 R.ver.time])) U
  refine⟨_,_,by rw[Iz.out],?_,?_,gK,cu⟩
  ·rw[hU];exact(zp7 (sy.out.ext aO) wZ _ _ _ _ _).lower aD.size
  ·rw[hU];exact(zp7 (sC.out.ext aO) wZ _ _ _ _ _).lower aD.size
end Go.Proofs.YtdnpmapelmjfpaaGreatDoor
