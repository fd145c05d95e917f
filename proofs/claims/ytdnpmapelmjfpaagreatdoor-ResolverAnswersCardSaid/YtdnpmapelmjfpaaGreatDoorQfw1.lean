/- Contracts of functions and plain lemmas that the proofs of this seat share (joined texts). No condition. -/
import Derived.Test.YtdnpmapelmjfpaaGreatDoorQwp
import Derived.Test.YtdnpmapelmjfpaaGreatDoorQe
import Derived.Deep.DeepCutAuto
import Derived.Test.YtdnpmapelmjfpaaGreatDoorQf
import Derived.Test.YtdnpmapelmjfpaaGreatDoorQrx
import Derived.Test.YtdnpmapelmjfpaaGreatDoorQwy
import Derived.Test.YtdnpmapelmjfpaaGreatDoorQht
import Derived.Test.YtdnpmapelmjfpaaGreatDoorQrz
set_option maxHeartbeats 4000000
set_option linter.unusedVariables false
set_option linter.unusedSimpArgs false
namespace Go.Proofs.YtdnpmapelmjfpaaGreatDoor
def putB:Nat→Nat→List UInt8
 |0,_=>[]
 |k+1,n=>putB k (n/256)++[UInt8.ofNat n]
theorem zsg:∀(k n:Nat),(putB k n).length=k
 |0,_=>rfl
 |k+1,n=>by simp only[putB,List.length_append,zsg k];rfl
theorem zqb:∀(k n:Nat),putB (k+1) n=UInt8.ofNat (n/256^k)::putB k n
 |0,n=>by simp[putB]
 |k+1,n=>by
  have h:=zqb k (n/256)
  rw[show putB (k+1+1) n=putB (k+1) (n/256)++[UInt8.ofNat n]from rfl,h,show putB (k+1) n=putB k (n/256)++[UInt8.ofNat n]from rfl,Nat.div_div_eq_div_mul,Nat.pow_succ,Nat.mul_comm (256^k) 256]
  rfl
theorem zz7 (n:Nat):putB 4 n=zdt n:=by
 show[UInt8.ofNat (n/256/256/256),UInt8.ofNat (n/256/256),UInt8.ofNat (n/256),UInt8.ofNat n]=_
 unfold zdt;rw[Nat.div_div_eq_div_mul,Nat.div_div_eq_div_mul,Nat.div_div_eq_div_mul]
theorem zoi (known:Bool) (n:List UInt8) (pos:Nat) (t:Tab):(zbx known n pos t).length≤t.length+1:=by
 unfold zbx;split
 ·simp
 ·omega
theorem zsh (cmp known:Bool):∀(f pos:Nat) (n:List UInt8) (t:Tab),(ze7 cmp known f pos n t).2.length≤t.length+(ze7 cmp known f pos n t).1.length
 |0,_,_,_=>by simp[ze7]
 |_+1,_,[],_=>by simp[ze7]
 |f+1,pos,b::r,t=>by
  simp only[ze7];split
  ·dsimp only;omega
  ·split
   ·dsimp only;omega
   ·have h1:=zsh cmp known f (pos+(1+b.toNat)) (r.drop b.toNat) (zbx known (b::r) pos t)
    have h2:=zoi known (b::r) pos t
    dsimp only;simp only[List.length_append,List.length_cons];omega
theorem zi9 (cmp known:Bool) (pos:Nat) (n:List UInt8) (t:Tab):(putN cmp known pos n t).2.length≤t.length+(putN cmp known pos n t).1.length:=zsh _ _ _ _ _ _
theorem zk2 (cmp:Bool):∀(pos:Nat) (l:List (List UInt8×Bool)) (t:Tab),(zb5 cmp pos l t).2.length≤t.length+(zb5 cmp pos l t).1.length
 |_,[],_=>by simp[zb5]
 |pos,(x,nm)::l,t=>by
  simp only[zb5];split
  ·have h1:=zk2 cmp (pos+(putN cmp cmp pos x t).1.length) l (putN cmp cmp pos x t).2
   have h2:=zi9 cmp cmp pos x t
   dsimp only;simp only[List.length_append];omega
  ·have h1:=zk2 cmp (pos+x.length) l t
   dsimp only;simp only[List.length_append];omega
theorem zye (pos:Nat) (kind:Int) (d:List UInt8) (t:Tab):(zdq pos kind d t).2.length≤t.length+(zdq pos kind d t).1.length:=zk2 _ _ _ _
def zr9 (p:List UInt8×Bool):Bool:=p.2|| !p.1.isEmpty
def zew (l:List (List UInt8×Bool)):List (List UInt8×Bool):=l.filter zr9
def prP (l:List Pc):List (List UInt8×Bool):=l.map fun p=>(p.text,p.nm)
def prR (l:List Pr):List (List UInt8×Bool):=l.map fun p=>(p.s,p.nm)
def zhg (A:List Pc×Nat) (B:List Pr×Nat):Prop:=(A.2=0↔B.2=0)∧(A.2=0→zew (prP A.1)=zew (prR B.1))
theorem ze0 {e f:Nat} (he:e≠0) (hf:f≠0):zhg ([],e) ([],f):=⟨by simp[he,hf],by simp[he]⟩
theorem zie {a:List Pc} {b:List Pr} (h1:zew (prP a)=zew (prR b)):zhg (a,0) (b,0):=⟨by simp,fun _=>h1⟩
theorem zxk (msg:List UInt8) (behind pos:Nat) (hp:pos≤msg.length):zhg (zad (zcj behind) msg pos) (zao msg behind 0 pos []):=by
 unfold zcj;simp only[zao];by_cases hb:behind=0
 ·subst hb;rw[if_pos rfl,if_neg (by omega)]
  simp only[zad];by_cases h:pos<msg.length
  ·rw[if_pos h,if_pos (by omega)];exact ze0 (by decide) (by decide)
  ·rw[if_neg h,if_neg (by omega),List.drop_of_length_le (by omega)];exact zie rfl
 ·rw[if_neg hb];by_cases h:msg.length - pos<behind
  ·rw[if_pos h,zc5 (by simp[zaa,h])]
   simp only[zaa,h,if_true];exact ze0 (by decide) (by decide)
  ·rw[if_neg h];have hr:zaa ⟨0,behind⟩ msg pos=(⟨(msg.drop pos).take behind,false,pos+behind⟩,0):=by simp[zaa,h]
   by_cases h2:behind<msg.length - pos
   ·rw[if_pos h2,zd0 (by rw[hr]) (by rw[hr];simp only[zad];rw[if_pos (by omega)];decide),hr]
    simp only[zad];rw[if_pos (by omega)]
    exact ze0 (by decide) (by decide)
   ·rw[if_neg h2,zbu (by rw[hr]) (by rw[hr];simp only[zad];rw[if_neg (by omega)]),hr]
    simp only[zad];rw[if_neg (by omega)]
    have e:(msg.drop pos).take behind=msg.drop pos:=List.take_of_length_le (by simp;omega)
    rw[e];exact zie rfl
theorem zof {p:Pc} {q:Pr} {A:List Pc×Nat} {B:List Pr×Nat} (h:zhg A B) (hA:A.2=0) (h1:p.text=q.s) (h2:p.nm=q.nm):zhg (p::A.1,0) (q::B.1,0):=by
 have h3:=h.2 hA
 refine zie ?_;unfold zew prP prR at*;rw[List.map_cons,List.map_cons,List.filter_cons,List.filter_cons,h1,h2,h3]
theorem zj6 (msg:List UInt8) (behind:Nat):∀(n pos:Nat),pos≤msg.length→zhg (zad (List.replicate n ⟨1,0⟩++zcj behind) msg pos) (zao msg behind n pos [])
 |0,pos,hp=>by simpa using zxk msg behind pos hp
 |n+1,pos,hp=>by
  rw[List.replicate_succ,List.cons_append];simp only[zao];by_cases h:(readN msg pos).2.2=0
  ·have hr:zaa ⟨1,0⟩ msg pos=(⟨(readN msg pos).1,true,(readN msg pos).2.1⟩,0):=by simp[zaa,h]
   have ih:=zj6 msg behind n (readN msg pos).2.1 (ze8 msg pos).1
   rw[if_neg (by simp[h])]
   have ha:=zfn msg behind n (readN msg pos).2.1 [⟨(readN msg pos).1,true⟩] []
   rw[List.append_nil]at ha;rw[List.nil_append,ha];by_cases h2:(zad (List.replicate n ⟨1,0⟩++zcj behind) msg (readN msg pos).2.1).2=0
   ·rw[zbu (by rw[hr]) (by rw[hr];exact h2),hr,if_pos (ih.1.1 h2)]
    exact zof ih h2 rfl rfl
   ·have h3:(zao msg behind n (readN msg pos).2.1 []).2≠0:=fun e=>h2 (ih.1.2 e)
    rw[zd0 (by rw[hr]) (by rw[hr];exact h2),hr,if_neg h3]
    have:=zh2 h3
    have e:zao msg behind n (readN msg pos).2.1 []=([],(zao msg behind n (readN msg pos).2.1 []).2):=Prod.ext this rfl
    rw[e];exact ze0 h2 h3
  ·rw[if_pos h];have hr:zaa ⟨1,0⟩ msg pos=(Pc.zero,(readN msg pos).2.2):=by simp[zaa,h]
   rw[zc5 (by rw[hr];exact h),hr]
   exact ze0 h h
theorem zzt (msg:List UInt8) (ahead names behind pos:Nat) (hp:pos≤msg.length):
 zhg (zad (zcj ahead++(List.replicate names ⟨1,0⟩++zcj behind)) msg pos) (if msg.length - pos<ahead then([],4)else zao msg behind names (pos+ahead) [⟨(msg.drop pos).take ahead,false⟩]):=by
 have ha:=fun q=>zfn msg behind names q [⟨(msg.drop pos).take ahead,false⟩] []
 simp only[List.append_nil]at ha;by_cases h0:ahead=0
 ·subst h0;rw[if_neg (by omega),ha]
  have h1:zcj 0=[]:=rfl
  rw[h1,List.nil_append];have ih:=zj6 msg behind names pos hp
  have e0:pos+0=pos:=rfl
  rw[e0];by_cases h2:(zao msg behind names pos []).2=0
  ·rw[if_pos h2];have h3:=ih.1.2 h2
   refine⟨by simp[h3],fun _=>?_⟩
   rw[ih.2 h3];rfl
  ·rw[if_neg h2];exact ih
 ·have h1:zcj ahead=[⟨0,ahead⟩]:=by unfold zcj;rw[if_neg h0]
  rw[h1,List.cons_append,List.nil_append];by_cases h:msg.length - pos<ahead
  ·have hr:zaa ⟨0,ahead⟩ msg pos=(Pc.zero,4):=by simp[zaa,h]
   rw[if_pos h,zc5 (by rw[hr];decide),hr]
   exact ze0 (by decide) (by decide)
  ·have hr:zaa ⟨0,ahead⟩ msg pos=(⟨(msg.drop pos).take ahead,false,pos+ahead⟩,0):=by simp[zaa,h]
   rw[if_neg h,ha];have ih:=zj6 msg behind names (pos+ahead) (by omega)
   by_cases h2:(zad (List.replicate names ⟨1,0⟩++zcj behind) msg (pos+ahead)).2=0
   ·rw[zbu (by rw[hr]) (by rw[hr];exact h2),hr,if_pos (ih.1.1 h2)]
    exact zof ih h2 rfl rfl
   ·have h3:(zao msg behind names (pos+ahead) []).2≠0:=fun e=>h2 (ih.1.2 e)
    rw[zd0 (by rw[hr]) (by rw[hr];exact h2),hr,if_neg h3]
    have:=zh2 h3
    have e:zao msg behind names (pos+ahead) []=([],(zao msg behind names (pos+ahead) []).2):=Prod.ext this rfl
    rw[e];exact ze0 h2 h3
theorem zua (msg:List UInt8) (pos:Nat) (k:Int) (hp:pos≤msg.length):zhg (splitOf msg pos k) (refPieces msg pos k):=by
 unfold splitOf refPieces;by_cases h41:k=41
 ·rw[if_pos h41,if_pos h41];exact ze0 (by decide) (by decide)
 rw[if_neg h41,if_neg h41];by_cases h16:k=16
 ·subst h16;rw[if_pos rfl];have hc:checksOf 16=[⟨2,0⟩]:=rfl
  rw[hc];by_cases h:zbv (msg.drop pos)=true
  ·have hr:zaa ⟨2,0⟩ msg pos=(⟨msg.drop pos,false,msg.length⟩,0):=by simp[zaa,h]
   rw[if_pos h,zbu (by rw[hr]) (by rw[hr];simp[zad]),hr]
   simp only[zad,Nat.lt_irrefl,if_false];exact zie rfl
  ·have hr:zaa ⟨2,0⟩ msg pos=(Pc.zero,4):=by simp[zaa,h]
   rw[if_neg h,zc5 (by rw[hr];decide),hr]
   exact ze0 (by decide) (by decide)
 rw[if_neg h16];have key:∀(a n b:Nat),layoutOf k=(a,n,b,true)→checksOf k=zcj a++(List.replicate n ⟨1,0⟩++zcj b)→
  zhg (zad (checksOf k) msg pos) (if(layoutOf k).2.2.2=false then([⟨msg.drop pos,false⟩],0)else if msg.length - pos<(layoutOf k).1 then([],4)else zao msg (layoutOf k).2.2.1 (layoutOf k).2.1 (pos+(layoutOf k).1) [⟨(msg.drop pos).take (layoutOf k).1,false⟩]):=by
  intro a n b h1 h2;rw[h1,h2,if_neg (by simp)]
  exact zzt msg a n b pos hp
 by_cases h1:k=1
 ·subst h1;exact key 4 0 0 rfl rfl
 by_cases h28:k=28
 ·subst h28;exact key 16 0 0 rfl rfl
 by_cases h2:k=2
 ·subst h2;exact key 0 1 0 rfl rfl
 by_cases h5:k=5
 ·subst h5;exact key 0 1 0 rfl rfl
 by_cases h12:k=12
 ·subst h12;exact key 0 1 0 rfl rfl
 by_cases h15:k=15
 ·subst h15;exact key 2 1 0 rfl rfl
 by_cases h6:k=6
 ·subst h6;exact key 0 2 20 rfl rfl
 by_cases h33:k=33
 ·subst h33;exact key 6 1 0 rfl rfl
 have hL:layoutOf k=(0,0,0,false):=by simp[layoutOf,h1,h28,h2,h5,h12,h15,h6,h33]
 have hC:checksOf k=[⟨3,0⟩]:=by simp[checksOf,h1,h28,h2,h5,h12,h15,h6,h33,h16]
 rw[hL,hC,if_pos rfl];have hr:zaa ⟨3,0⟩ msg pos=(⟨msg.drop pos,false,msg.length⟩,0):=rfl
 rw[zbu (by rw[hr]) (by rw[hr];simp[zad]),hr]
 simp only[zad,Nat.lt_irrefl,if_false];exact zie rfl
theorem zn3 (k:Int) (d:List UInt8):zew (prR ((zc1 k d).getD []))=zew (prP (partsOf k d)):=by
 have h:=zua d 0 k (Nat.zero_le _)
 have h':=zhp d 0 k (Nat.zero_le _)
 unfold zc1 partsOf zbw;by_cases h1:(splitOf d 0 k).2=0
 ·have h2:=(h'.2 h1).1
  have h3:=h.1.1 h1
  by_cases h4:textOf (splitOf d 0 k).1=d
  ·rw[if_pos ⟨h3,h2▸h4⟩,if_pos ⟨h1,h4⟩];exact(h.2 h1).symm
  ·rw[if_neg (fun e=>h4 (h2.trans e.2)),if_neg (fun e=>h4 e.2)];rfl
 ·have h3:¬(refPieces d 0 k).2=0:=fun e=>h1 (h.1.2 e)
  rw[if_neg (fun e=>h3 e.1),if_neg (fun e=>h1 e.1)]
  rfl
theorem zgy (cmp:Bool):∀(l:List (List UInt8×Bool)) (pos:Nat) (t:Tab),zb5 cmp pos (zew l) t=zb5 cmp pos l t
 |[],_,_=>rfl
 |(x,nm)::l,pos,t=>by
  unfold zew;rw[List.filter_cons];by_cases hk:zr9 (x,nm)=true
  ·rw[if_pos hk];simp only[zb5];have ih:=fun p t=>zgy cmp l p t
   unfold zew at ih;simp only[ih]
  ·rw[if_neg hk];have h2:nm=false∧x=[]:=by
    unfold zr9 at hk;simp at hk;exact hk
   obtain⟨rfl,rfl⟩:=h2
   have ih:=zgy cmp l pos t
   unfold zew at ih;rw[ih];simp[zb5]
theorem zyd (pos:Nat) (kind:Int) (d:List UInt8) (t:Tab):zdq pos kind d t=zb5 (cmpOf kind) pos (prR ((zc1 kind d).getD [])) t:=by
 rw[←zgy,zn3,zgy];rfl
end Go.Proofs.YtdnpmapelmjfpaaGreatDoor
namespace Go.Proofs.YtdnpmapelmjfpaaGreatDoor
open Go.RowKit
set_option maxRecDepth 100000
theorem zsp (n k:Nat) (w:World) (hk:k≤4) (hn:n<4294967296):
 Calls Tryz.prog 117 #[.int .u64 n,.int .i64 k] w fun e w'=>e=.returned (S (putB k n))∧Ext w w':=by
 go_enter Tryz.func117,Tryz.ntmps117;go_wp2_with fail
 go_loopw [0,5,6] (fun s0 s5 s6 wr=>∃i m:Nat,i≤k∧m≤n∧Hid (m=n/256^i)∧s6=.int .i64 i∧s5=S (putB i n)∧s0=.int .u64 m∧Ext w wr) (fun _ _ s6 _=>k - (intOf s6).toNat)
 case atStart=>exact⟨0,n,by omega,Nat.le_refl _,Lib.hid (by simp),rfl,rfl,rfl,Ext.refl _⟩
 case round=>
  obtain⟨i,m,hi,hm,hmi,rfl,rfl,rfl,hE⟩:=hrel
  obtain⟨wo,rfl⟩:∃wo:World,wo=wr:=⟨_,rfl⟩
  by_cases hlt:i<k
  ·have HS:=Lib.hid (show putB (i+1) n=UInt8.ofNat m::putB i n by rw[hmi.out];exact zqb i n)
   have HD:=Lib.hid (show m/256=n/256^(i+1)by rw[hmi.out,Nat.div_div_eq_div_mul,Nat.pow_succ])
   have hpl:(putB i n).length≤4:=by rw[zsg];omega
   have hcv:∀V:World,(convert 110 9 (.slice (some ⟨V.heap.size,0,none⟩) 1 1)).run Tryz.prog (V.alloc (.cells #[.int .u8 ((m:Int)%256)] 5))=.ok (S [UInt8.ofNat m]) (V.alloc (.cells #[.int .u8 ((m:Int)%256)] 5)):=fun V=>zr7 V V.heap.size rfl ((m:Int)%256) (UInt8.ofNat m) (by rw[UInt8.toNat_ofNat'];omega)
   generalize putB i n=T at*;have hm0:(0:Int)≤(m:Int):=by omega
   have hm1:(m:Int)≤4294967295:=by omega
   have hik:(i:Int)<(k:Int):=by omega
   have hcv:=hcv wo
   go_wp2_with fail;go_roundw
   case rel=>exact⟨i+1,m/256,by omega,by omega,HD,by go_num,by rw[HS.out],by go_num,hE.alloc _⟩
   case measure=>simp[intOf];omega
  ·obtain rfl:i=k:=by omega
   go_wp2_with fail;go_ret;exact⟨rfl,hE⟩
theorem zBz (n:Nat) (w:World) (hn:n≤65535):
 Calls Tryz.prog 176 #[.int .i64 n] w fun e w'=>e=.returned (S (two n))∧Ext w w':=by
 have hn0:(0:Int)≤(n:Int):=by omega
 have hn1:(n:Int)≤65535:=by omega
 have hcv:(convert 110 9 (.slice (some ⟨w.heap.size,0,none⟩) 2 2)).run Tryz.prog (w.alloc (.cells #[.int .u8 ((n:Int)/256),.int .u8 ((n:Int)%256)] 5))=.ok (S (two n)) (w.alloc (.cells #[.int .u8 ((n:Int)/256),.int .u8 ((n:Int)%256)] 5)):=by
  have h:=ze1 (lo:=0) 2 (l:=two n) (zaz w w.heap.size rfl 5 _ 2 1 rfl)
  have e:(two n).map U8=[.int .u8 ((n:Int)/256),.int .u8 ((n:Int)%256)]:=by
   simp only[two,List.map_cons,List.map_nil,U8];rw[UInt8.toNat_ofNat',UInt8.toNat_ofNat',show((n/256%2^8:Nat):Int)=(n:Int)/256 by omega,show((n%2^8:Nat):Int)=(n:Int)%256 by omega]
  rw[e]at h;exact h
 go_enter Tryz.func176,Tryz.ntmps176;go_wp2_with fail;go_ret;exact⟨rfl,(Ext.refl _).alloc _⟩
theorem zBy (b:Bool) (n:Nat) (w:World):Calls Tryz.prog 222 #[.bool b,.int .i64 n] w fun e w'=>e=.returned (.int .i64 (zah b n:Nat))∧w=w':=by
 cases b
 all_goals
  go_enter Tryz.func222,Tryz.ntmps222;go_wp2_with fail;go_ret;exact⟨rfl,rfl⟩
abbrev hdR (h:HdD):Value:=.agg #[.int .u16 h.id,.bool h.qr,.int .u8 h.op,.bool h.aa,.bool h.tc,.bool h.rd,.bool h.ra,.bool h.z,.bool h.ad,.bool h.cd,.int .u8 h.code]
theorem zg1 (b:Bool) (n:Nat):zah b n≤n:=by cases b<;>simp[zah]
theorem zx8 (h:HdD) (w:World) (ho:0≤h.op) (hc:0≤h.code):
 Calls Tryz.prog 175 #[hdR h] w fun e w'=>(if ze4 h=true then e=.returned (.tuple #[.int .u16 (zcg h:Nat),.int .i64 0])else e=.returned (.tuple #[.int .u16 0,.int .i64 1]))∧Ext w w':=by
 obtain⟨id,qr,op,aa,tc,rd,ra,z,ad,cd,code⟩:=h
 dsimp only at ho hc;obtain⟨o,rfl⟩:=Int.eq_ofNat_of_zero_le ho
 obtain⟨c,rfl⟩:=Int.eq_ofNat_of_zero_le hc
 by_cases hok:o≤15∧c≤15
 ·have hk:ze4 ⟨id,qr,o,aa,tc,rd,ra,z,ad,cd,c⟩=true:=by unfold ze4;rw[decide_eq_true_eq];dsimp only;omega
  rw[hk];obtain⟨h1,h2⟩:=hok
  have h1i:¬((15:Int)<(o:Int)):=by omega
  have h2i:¬((15:Int)<(c:Int)):=by omega
  have ho0:(0:Int)≤(o:Int):=by omega
  have hc0:(0:Int)≤(c:Int):=by omega
  have ho1:(o:Int)≤15:=by omega
  have hc1:(c:Int)≤15:=by omega
  go_enter Tryz.func175,Tryz.ntmps175;go_upto_region 3 with fail
  go_quiet ((go_at_call 222;exact Calls.quiet_of_same ((zBy _ _ _).mono fun _ _ h=>⟨h.1,h.2.symm⟩)))
  go_wp2_with fail
  go_ret2
  have l0:=zg1 qr 32768
  have l1:=zg1 aa 1024
  have l2:=zg1 tc 512
  have l3:=zg1 rd 256
  have l4:=zg1 ra 128
  have l5:=zg1 z 64
  have l6:=zg1 ad 32
  have l7:=zg1 cd 16
  refine⟨?_,((Ext.refl _).alloc _).drewN _⟩;have hv:IntKind.u16.wrap (wrap64 (wrap64 (wrap64 (wrap64 (wrap64 (wrap64 (wrap64 (wrap64 (wrap64 (((zah qr 32768:Nat):Int)+(o:Int)*2048)+((zah aa 1024:Nat):Int))+((zah tc 512:Nat):Int))+((zah rd 256:Nat):Int))+((zah ra 128:Nat):Int))+((zah z 64:Nat):Int))+((zah ad 32:Nat):Int))+((zah cd 16:Nat):Int))+(c:Int)))=((zcg ⟨id,qr,o,aa,tc,rd,ra,z,ad,cd,c⟩:Nat):Int):=by
   unfold zcg;dsimp only[Int.toNat_natCast];rw[IntWalk.wrap64_in (((zah qr 32768:Nat):Int)+(o:Int)*2048) (by omega)]
   rw[IntWalk.wrap64_in (((zah qr 32768:Nat):Int)+(o:Int)*2048+((zah aa 1024:Nat):Int)) (by omega)]
   rw[IntWalk.wrap64_in (((zah qr 32768:Nat):Int)+(o:Int)*2048+((zah aa 1024:Nat):Int)+((zah tc 512:Nat):Int)) (by omega)]
   rw[IntWalk.wrap64_in (((zah qr 32768:Nat):Int)+(o:Int)*2048+((zah aa 1024:Nat):Int)+((zah tc 512:Nat):Int)+((zah rd 256:Nat):Int)) (by omega)]
   rw[IntWalk.wrap64_in (((zah qr 32768:Nat):Int)+(o:Int)*2048+((zah aa 1024:Nat):Int)+((zah tc 512:Nat):Int)+((zah rd 256:Nat):Int)+((zah ra 128:Nat):Int)) (by omega)]
   rw[IntWalk.wrap64_in (((zah qr 32768:Nat):Int)+(o:Int)*2048+((zah aa 1024:Nat):Int)+((zah tc 512:Nat):Int)+((zah rd 256:Nat):Int)+((zah ra 128:Nat):Int)+((zah z 64:Nat):Int)) (by omega)]
   rw[IntWalk.wrap64_in (((zah qr 32768:Nat):Int)+(o:Int)*2048+((zah aa 1024:Nat):Int)+((zah tc 512:Nat):Int)+((zah rd 256:Nat):Int)+((zah ra 128:Nat):Int)+((zah z 64:Nat):Int)+((zah ad 32:Nat):Int)) (by omega)]
   rw[IntWalk.wrap64_in (((zah qr 32768:Nat):Int)+(o:Int)*2048+((zah aa 1024:Nat):Int)+((zah tc 512:Nat):Int)+((zah rd 256:Nat):Int)+((zah ra 128:Nat):Int)+((zah z 64:Nat):Int)+((zah ad 32:Nat):Int)+((zah cd 16:Nat):Int)) (by omega)]
   rw[IntWalk.wrap64_in (((zah qr 32768:Nat):Int)+(o:Int)*2048+((zah aa 1024:Nat):Int)+((zah tc 512:Nat):Int)+((zah rd 256:Nat):Int)+((zah ra 128:Nat):Int)+((zah z 64:Nat):Int)+((zah ad 32:Nat):Int)+((zah cd 16:Nat):Int)+(c:Int)) (by omega)]
   rw[IntWalk.u16_in _ (by omega)]
   omega
  rw[hv];rfl
 ·have hk:ze4 ⟨id,qr,o,aa,tc,rd,ra,z,ad,cd,c⟩=false:=by unfold ze4;rw[decide_eq_false_iff_not];dsimp only;omega
  rw[hk];have hx:(15:Int)<(o:Int)∨(¬(15:Int)<(o:Int)∧(15:Int)<(c:Int)):=by omega
  clear hok;rcases hx with h1|⟨h1,h2⟩
  all_goals
   go_enter Tryz.func175,Tryz.ntmps175;go_wp2_with fail
   go_ret2
   exact⟨rfl,(Ext.refl _).alloc _⟩
theorem zA7 (cs:List Nat) (i:Nat) (h:i<cs.length):(cs.take (i+1)).flatMap two=(cs.take i).flatMap two++two cs[i]:=by
 rw[zax cs i h,List.flatMap_append];simp
theorem zrx (cs:List Nat):(cs.flatMap two).length=2*cs.length:=by
 induction cs with
 |nil=>rfl
 |cons c r ih=>simp only[List.flatMap_cons,List.length_append,zak,ih,List.length_cons];omega
theorem zo9 (h:HdD) (c0 c1 c2 c3:Nat) (w:World) (hok:ze4 h=true) (hi:0≤h.id∧h.id≤65535) (ho:0≤h.op) (hc:0≤h.code) (h0:c0≤65535) (h1:c1≤65535) (h2:c2≤65535) (h3:c3≤65535):
 Calls Tryz.prog 115 #[hdR h,.agg #[.int .i64 c0,.int .i64 c1,.int .i64 c2,.int .i64 c3]] w fun e w'=>e=.returned (.tuple #[S (two h.id.toNat++two (zcg h)++([c0,c1,c2,c3].flatMap two)),.int .i64 0])∧Ext w w':=by
 have HF:=Lib.hid (fun V=>zx8 h V ho hc)
 rw[hok]at HF;obtain⟨cs,hcs⟩:∃cs,cs=[c0,c1,c2,c3]:=⟨_,rfl⟩
 rw[←hcs];have Hcl:=Lib.hid (show cs.length=4 by rw[hcs];rfl)
 have Hcs:=Lib.hid hcs
 clear hcs;have hfl:zcg h≤65535:=by have:=zrw ho hc hok;omega
 obtain⟨fl,hfe⟩:∃fl,fl=zcg h:=⟨_,rfl⟩
 rw[←hfe]at HF hfl ⊢;clear hfe;obtain⟨idn,hid⟩:=Int.eq_ofNat_of_zero_le hi.1
 have hidn:idn≤65535:=by omega
 obtain⟨id,qr,op,aa,tc,rd,ra,z,ad,cd,code⟩:=h
 dsimp only at hid ho hc hi ⊢;subst hid;obtain⟨W0,hW0⟩:∃W0,W0=(w.alloc (.cells #[.int .u16 idn,.bool qr,.int .u8 op,.bool aa,.bool tc,.bool rd,.bool ra,.bool z,.bool ad,.bool cd,.int .u8 code] 30)).alloc (.cells #[.int .i64 c0,.int .i64 c1,.int .i64 c2,.int .i64 c3] 129):=⟨_,rfl⟩
 have hw0:Ext w W0:=by rw[hW0];exact((Ext.refl _).alloc _).alloc _
 have r1:W0.heap[w.heap.size+1]? =some (.cells #[.int .i64 c0,.int .i64 c1,.int .i64 c2,.int .i64 c3] 129):=by rw[hW0];exact heap_alloc2_new w _ _
 have r0:W0.heap[w.heap.size]? =some (.cells #[.int .u16 idn,.bool qr,.int .u8 op,.bool aa,.bool tc,.bool rd,.bool ra,.bool z,.bool ad,.bool cd,.int .u8 code] 30):=by rw[hW0];exact heap_alloc2_old w _ _
 go_enter Tryz.func115,Tryz.ntmps115;go_upto_region 1 with fail
 have hzz:(w.alloc (.cells #[.int .u16 idn,.bool qr,.int .u8 op,.bool aa,.bool tc,.bool rd,.bool ra,.bool z,.bool ad,.bool cd,.int .u8 code] 30)).alloc (.cells #[.int .i64 c0,.int .i64 c1,.int .i64 c2,.int .i64 c3] 129)=W0:=hW0.symm
 rw[hzz];clear hzz hW0;go_wp2_with(first|(refine zaw (by rfl) 30 (.tmp 2) rfl w.heap.size 0 rfl [.int .u16 idn,.bool qr,.int .u8 op,.bool aa,.bool tc,.bool rd,.bool ra,.bool z,.bool ad,.bool cd,.int .u8 code] (zeu r0) _ Tryz.underlying30 rfl (by kernel_rfl) ?_)|fail)
 refine(HF.out _).mono ?_;rintro e w1 ⟨he,hE1⟩;simp only[if_true]at he;subst he;have r01:=(hE1.block _ (Array.getElem?_eq_some_iff.1 r0).1).trans r0
 have r11:=(hE1.block _ (Array.getElem?_eq_some_iff.1 r1).1).trans r1
 have x0:w1.cell? ⟨w.heap.size,0,none⟩=some (.int .u16 idn):=za0 r01 rfl
 have hidi:(0:Int)≤(idn:Int):=by omega
 have hidj:(idn:Int)≤65535:=by omega
 have hfi:(fl:Int)≤65535:=by omega
 have hf0:(0:Int)≤(fl:Int):=by omega
 have hw1:Ext w w1:=hw0.trans hE1
 have HC:=Lib.hid (fun(i:Nat) (hi:i<4)=>(show ∃c:Nat,c≤65535∧cs[i]? =some c∧w1.cell? ⟨w.heap.size+1,i,none⟩=some (.int .i64 c)from match i,hi with
  |0,_=>⟨c0,h0,by rw[Hcs.out];rfl,za0 r11 rfl⟩
  |1,_=>⟨c1,h1,by rw[Hcs.out];rfl,za0 r11 rfl⟩
  |2,_=>⟨c2,h2,by rw[Hcs.out];rfl,za0 r11 rfl⟩
  |3,_=>⟨c3,h3,by rw[Hcs.out];rfl,za0 r11 rfl⟩
  |k+4,h=>absurd h (by omega)))
 have hz1:w.heap.size+1<w1.heap.size:=(Array.getElem?_eq_some_iff.1 r11).1
 have HT:=Lib.hid (fun n V (hn:n≤65535)=>zBz n V hn)
 clear r01 r11 r0 r1 HF;go_wp2_with fail;refine(HT.out idn _ hidn).mono ?_;rintro e w2 ⟨rfl,hE2⟩;go_wp2_with fail;refine(HT.out fl _ hfl).mono ?_;rintro e w3 ⟨rfl,hE3⟩;have hE13:Ext w1 w3:=hE2.trans hE3
 go_wp2_with fail;clear x0
 go_loopw [4,5,8,9] (fun s4 s5 s8 s9 wr=>∃i:Nat,i≤4∧s4=.string ⟨#[]⟩∧s5=.int .i64 0∧s9=.int .i64 i∧s8=S (two idn++two fl++(cs.take i).flatMap two)∧Ext w1 wr) (fun _ _ _ s9 _=>4 - (intOf s9).toNat)
 case atStart=>exact⟨0,by omega,rfl,rfl,rfl,by simp,hE13⟩
 case round=>
  obtain⟨i,hi4,rfl,rfl,rfl,rfl,hE⟩:=hrel
  obtain⟨wo,rfl⟩:∃wo:World,wo=wr:=⟨_,rfl⟩
  by_cases hlt:i<4
  ·obtain⟨c,hcle,hci,hcc⟩:=HC.out i hlt
   have hcc:=(hE.cell (p:=⟨w.heap.size+1,i,none⟩) hz1).trans hcc
   have HS:=Lib.hid (show(cs.take (i+1)).flatMap two=(cs.take i).flatMap two++two c by
    rw[zA7 cs i (by rw[Hcl.out];exact hlt),(List.getElem?_eq_some_iff.1 hci).2])
   have Hci:=Lib.hid hci
   clear hci;have hbl:((cs.take i).flatMap two).length≤8:=by rw[zrx,List.length_take];omega
   generalize (cs.take i).flatMap two=X at*;have hii:(i:Int)<4:=by omega
   have hi0:(0:Int)≤(i:Int):=by omega
   have hcc0:(0:Int)≤(c:Int):=by omega
   have hcc1:(c:Int)≤65535:=by omega
   have hcn:¬((c:Int)<0):=by omega
   have hcm:¬((65535:Int)<(c:Int)):=by omega
   have hno:¬9223372036854775807<(two idn).length+((two fl).length+X.length)+(two c).length:=by rw[zak,zak,zak];omega
   go_wp2_with fail;refine(HT.out c _ hcle).mono ?_;rintro e w4 ⟨rfl,hE4⟩;go_wp2_with fail;go_roundw
   case rel=>exact⟨i+1,by omega,rfl,rfl,by go_num,by rw[HS.out];simp[two],hE.trans hE4⟩
   case measure=>simp[intOf];omega
  ·obtain rfl:i=4:=by omega
   have e1:cs.take 4=cs:=List.take_of_length_le (by rw[Hcl.out];exact Nat.le_refl _)
   rw[e1];clear e1;obtain⟨X,hX⟩:∃X,X=cs.flatMap two:=⟨_,rfl⟩
   rw[←hX];have HX:=Lib.hid hX
   clear hX;go_wp2_with fail
   go_ret2
   exact⟨by rw[←HX.out];rfl,hw1.trans hE⟩
def zlt (e:List UInt8×Nat):List Value:=[S e.1,.int .i64 (e.2:Nat)]
def TabR (w:World) (lo tp:Nat) (T:Tab):Prop:=lo≤tp∧zjr T∧∃A c,w.heap[tp]? =some (.cells #[.slice A T.length c] 206)∧T.length≤c∧c≤maxLen∧Rd w lo 2 A T.length (T.flatMap zlt)
theorem TabR.ext {w w':World} {lo tp:Nat} {T:Tab} (h:TabR w lo tp T) (hE:Ext w w'):TabR w' lo tp T:=by
 obtain⟨h1,h2,A,c,h3,h4,h5,h6⟩:=h
 exact⟨h1,h2,A,c,(hE.block _ (Array.getElem?_eq_some_iff.1 h3).1).trans h3,h4,h5,h6.ext hE⟩
theorem TabR.lt {w:World} {lo tp:Nat} {T:Tab} (h:TabR w lo tp T):tp<w.heap.size:=by
 obtain⟨h1,h2,A,c,h3,_⟩:=h
 exact(Array.getElem?_eq_some_iff.1 h3).1
theorem zA6 {w:World} {b off:Nat} {T:Tab} (hc:∀j u,(T.flatMap zlt)[j]? =some u→w.cell? ⟨b,off+j,none⟩=some u) (k:Nat) (e:List UInt8×Nat) (hk:T[k]? =some e):
 w.cell? ⟨b,off+k*2,none⟩=some (S e.1)∧w.cell? ⟨b,off+k*2+1,none⟩=some (.int .i64 (e.2:Nat)):=by
 have h:=zbd zlt 2 (fun _=>rfl) T k
 refine⟨?_,?_⟩
 ·have:=hc (k*2+0) (S e.1) (by rw[h 0 e hk (by omega)];rfl)
  exact this
 ·have:=hc (k*2+1) (.int .i64 (e.2:Nat)) (by rw[h 1 e hk (by omega)];rfl)
  exact this
theorem zE2 (lo tp:Nat) (T:Tab) (n:List UInt8) (w:World) (h:TabR w lo tp T):
 Calls Tryz.prog 177 #[.pointer (some ⟨tp,0,none⟩),S n] w fun e w'=>e=.returned (.tuple #[.int .i64 ((zbe T n).getD 0:Nat),.bool (zbe T n).isSome])∧w=w':=by
 obtain⟨R,hR⟩:∃R,R=zbe T n:=⟨_,rfl⟩
 rw[←hR];have HR:=Lib.hid hR
 clear hR;obtain⟨_,_,A,c,h3,h4,h5,h6⟩:=h
 have x0:w.cell? ⟨tp,0,none⟩=some (.slice A T.length c):=za0 h3 rfl
 unfold maxLen at h5;go_enter Tryz.func177,Tryz.ntmps177;go_wp2_with fail
 go_loop [4,5,6] (fun s4 s5 s6=>∃k:Nat,k≤T.length∧s4=.int .i64 0∧s5=.bool false∧s6=.int .i64 k∧Hid (R=zbe (T.drop k) n)) (fun _ _ s6=>T.length - (intOf s6).toNat)
 case atStart=>exact⟨0,Nat.zero_le _,rfl,rfl,rfl,by simpa using HR⟩
 case round=>
  obtain⟨k,hk,rfl,rfl,rfl,HR1⟩:=hrel
  by_cases hlt:k<T.length
  ·obtain⟨b,off,rfl,_,hbz,hc⟩:=h6.2 (by omega)
   obtain⟨y0,y1⟩:=zA6 hc k T[k] (List.getElem?_eq_getElem hlt)
   have HS:=Lib.hid (show T.drop k=T[k]::T.drop (k+1)from List.drop_eq_getElem_cons hlt)
   generalize T[k]=t at*;obtain⟨m,p⟩:=t
   dsimp only at y0 y1;have hki:(k:Int)<(T.length:Int):=by omega
   have hk0:(0:Int)≤(k:Int):=by omega
   clear hc;by_cases hm:m=n
   ·have HRv:=Lib.hid (show R=some p by rw[HR1.out,HS.out,hm];unfold zbe;rw[List.find?_cons_of_pos (by simp)];rfl)
    subst hm;go_wp2_with fail
    go_ret2
    exact⟨by rw[HRv.out];rfl,rfl⟩
   ·have hme:(m==n)=false:=by rw[beq_eq_false_iff_ne];exact hm
    have HRn:=Lib.hid (show R=zbe (T.drop (k+1)) n by rw[HR1.out,HS.out];unfold zbe;rw[List.find?_cons_of_neg (by simpa using hm)])
    go_wp2_with fail;go_round
    case rel=>exact⟨k+1,by omega,rfl,rfl,by go_num,HRn⟩
    case measure=>simp[intOf];omega
  ·obtain rfl:k=T.length:=by omega
   have HRn:=Lib.hid (show R=none by rw[HR1.out,List.drop_length];rfl)
   go_wp2_with fail
   go_ret2
   exact⟨by rw[HRn.out];rfl,rfl⟩
structure RpInv (w:World) (tp lo:Nat) (cmp known:Bool) (R:List UInt8×Tab) (X m:List UInt8) (T1:Tab) (wr:World):Prop where
 ps:(zay m).isSome=true
 ml:m.length≤255
 xl:X.length+m.length≤1048832
 tab:TabR wr lo tp T1
 tl:T1.length≤X.length
 eq:R=(X++(putN cmp known X.length m T1).1,(putN cmp known X.length m T1).2)
 blw:Below lo w wr
 kc:KeptC tp w wr
def zjq (lo tp:Nat) (R:List UInt8×Tab) (w:World) (e:Ending) (w':World):Prop:=e=.returned (.tuple #[S R.1,.int .i64 0])∧TabR w' lo tp R.2∧Below lo w w'∧KeptC tp w w'
theorem zBd:(Tryz.prog.info? 281).map (fun i=>(i.zero,i.size,i.bytes))=some (some (.agg #[.string ⟨#[]⟩,.int .i64 0]),2,24):=by kernel_rfl
theorem zv5 (T:Tab):∀u∈T.flatMap zlt,u.oneCell'=true:=by
 intro u hu;obtain⟨e,_,hu⟩:=List.mem_flatMap.1 hu
 simp only[zlt,List.mem_cons,List.not_mem_nil,or_false]at hu;rcases hu with rfl|rfl<;>rfl
theorem zyl {w:World} {g:Nat} {u:Value} {t:TypeId} {fr:Nat×Nat} (h:w.heap[g]? =some (.cells #[u] t fr)) (v:Value):(w.setCell ⟨g,0,none⟩ v).heap[g]? =some (.cells #[v] t fr):=by
 simp[World.setCell,Array.getElem?_modify,h]
theorem zmb {w wo W:World} {tp lo:Nat} {cmp known:Bool} {R:List UInt8×Tab} {X m:List UInt8} {T1 T2:Tab} {c:UInt8} (hI:RpInv w tp lo cmp known R X m T1 wo) (hm:m=c::m.drop 1) (h0:c≠0)
 (hno:¬((zbe T1 m).isSome=true∧cmp=true)) (hcl:c.toNat<m.length - 1) (hp:(zay (List.drop c.toNat (List.drop 1 m))).isSome=true) (hT2:zbx known m X.length T1=T2) (ht2:TabR W lo tp T2) (hB:Below lo wo W) (hK:KeptC tp wo W):
 RpInv w tp lo cmp known R (X++m.take (1+c.toNat)) (List.take (m.length - (1+c.toNat)) (List.drop (1+c.toNat) m)) T2 W:=by
 have hd:List.take (m.length - (1+c.toNat)) (List.drop (1+c.toNat) m)=(m.drop 1).drop c.toNat:=by
  rw[List.take_of_length_le (by rw[List.length_drop];exact Nat.le_refl _),List.drop_drop]
 have ht:m.take (1+c.toNat)=c::(m.drop 1).take c.toNat:=by
  conv=>lhs;rw[hm]
  rw[Nat.add_comm,List.take_succ_cons]
 have htl:(m.take (1+c.toNat)).length=1+c.toNat:=by rw[List.length_take];omega
 have h1:=hI.xl
 have h2:=hI.ml
 have h3:=hI.tl
 have h4:=zoi known m X.length T1
 rw[hd];refine⟨hp,by simp only[List.length_drop];omega,by simp only[List.length_append,List.length_drop,htl];omega,ht2,by rw[←hT2,List.length_append,htl];omega,?_,hI.blw.trans hB,hI.kc.trans hK⟩
 rw[hI.eq]
 conv=>lhs;rw[hm]
 rw[zqd h0 (by rw[←hm];exact hno),←hm,hT2,List.length_append,htl,ht]
 simp only[List.append_assoc,List.cons_append]
theorem zka (lo tp:Nat) (T:Tab) (b n:List UInt8) (cmp known:Bool) (w:World) (ht:TabR w lo tp T) (hb:b.length≤1048576) (hT:T.length≤b.length) (hn:may n=true):
 Calls Tryz.prog 116 #[.pointer (some ⟨tp,0,none⟩),S b,S n,.bool cmp,.bool known] w (zjq lo tp (b++(putN cmp known b.length n T).1,(putN cmp known b.length n T).2) w):=by
 obtain⟨i0,hi0,hz0,hz1,hz2⟩:=info_parts zBd
 have hn255:=ze9 hn
 have hMay:=Lib.hid (fun W=>zc7 n W (by omega))
 simp only[hn]at hMay;obtain⟨R,hR⟩:∃R,R=(b++(putN cmp known b.length n T).1,(putN cmp known b.length n T).2):=⟨_,rfl⟩
 rw[←hR];have HI:∀w0,Ext w w0→RpInv w tp lo cmp known R b n T w0:=fun w0 hE=>⟨zh9 hn,hn255,by omega,ht.ext hE,hT,hR,hE.mono (by have:=ht.1;have:=ht.lt;omega),KeptC.ext hE⟩
 clear hR;go_enter Tryz.func116,Tryz.ntmps116;go_wp2_with fail;refine(hMay.out _).mono ?_;rintro e w0 ⟨rfl,hE0⟩;go_wp2_with fail
 go_loopw [1,2,10,11,12,13,14] (fun s1 s2 s10 s11 _ _ _ wr=>∃(X m:List UInt8) (T1:Tab),s1=S X∧s2=S m∧s10=.string ⟨#[]⟩∧s11=.int .i64 0∧RpInv w tp lo cmp known R X m T1 wr) (fun _ s2 _ _ _ _ _ _=>zem s2)
 case atStart=>exact⟨b,n,T,rfl,rfl,rfl,rfl,HI _ hE0⟩
 case round=>
  obtain⟨X,m,T1,rfl,rfl,rfl,rfl,hI⟩:=hrel
  obtain⟨wo,rfl⟩:∃wo:World,wo=wr:=⟨_,rfl⟩
  have HR1:=Lib.hid hI.eq
  have hps:=hI.ps
  have hml:=hI.ml
  have hxl:=hI.xl
  have hT1:=hI.tab
  have hm0:0<m.length:=by
   rcases Nat.eq_zero_or_pos m.length with h|h
   ·rw[List.length_eq_zero_iff.1 h,zbz]at hps;cases hps
   ·exact h
  obtain⟨c,Hc,hc1,hc2,hc3⟩:=zc6 m 0 hm0
  have Hm:=Lib.hid (show m=c::m.drop 1 by rw[←Hc.out];exact List.drop_eq_getElem_cons hm0)
  have hps':=hps
  rw[Hm.out]at hps';by_cases h0:c=0
  ·have hr0:=zvb (by rw[←h0];exact hps')
   have hm1:m=[0]:=by rw[Hm.out,hr0,h0]
   clear Hm Hc hc1 hc2 hc3 hps hps';subst hm1;have HX1:=Lib.hid (show R=(X++[0],T1)by rw[HR1.out,zlg])
   go_wp2_with fail
   go_ret2
   rw[HX1.out];exact⟨rfl,hT1,hI.blw,hI.kc⟩
  ·have h0n:c.toNat≠0:=fun e=>h0 (UInt8.toNat_inj.1 (by simpa using e))
   obtain⟨hc64,hcl,hp'⟩:=zpa h0 hps'
   clear hps hps';rw[List.length_drop]at hcl;have hmne:(m==[0])=false:=by
    rw[beq_eq_false_iff_ne];intro e;have h:=Hm.out
    rw[e]at h;injection h with h _
    exact h0 h.symm
   have HA:=Lib.hid (zE2 lo tp T1 m wo hT1)
   obtain⟨q,hq⟩:∃q,q=zbe T1 m:=⟨_,rfl⟩
   rw[←hq]at HA;have hqle:q.getD 0≤16383:=by rw[hq];exact zt7 hT1.2.1
   have Hq:=Lib.hid hq
   clear hq;generalize hqs:q.isSome=qs at*;generalize hqv:q.getD 0=qv at*;have Hqs:=Lib.hid hqs
   have Hqv:=Lib.hid hqv
   clear hqs hqv;go_upto_region 4 with fail
   go_wp2_with fail;refine HA.out.mono ?_;rintro e w' ⟨rfl,rfl⟩;go_upto_region 5 with fail
   by_cases hc:qs=true∧cmp=true
   ·obtain⟨rfl,rfl⟩:=hc
    have HX1:=Lib.hid (show R=(X++zgr qv,T1)by
     have h1:=Hq.out;have h2:=Hqs.out;have h3:=Hqv.out
     rcases q with _|q'
     ·cases h2
     ·rw[HR1.out,Hm.out,zsi h0 (k:=q') (by rw[←Hm.out,←h1]) rfl,show qv=q' from h3.symm])
    have hqi:(qv:Int)≤16383:=by omega
    have hq0:(0:Int)≤(qv:Int):=by omega
    have hcv:(convert 110 9 (.slice (some ⟨wo.heap.size,0,none⟩) 2 2)).run Tryz.prog (wo.alloc (.cells #[.int .u8 (192+(qv:Int)/256),.int .u8 ((qv:Int)%256)] 5))=.ok (S (zgr qv)) (wo.alloc (.cells #[.int .u8 (192+(qv:Int)/256),.int .u8 ((qv:Int)%256)] 5)):=by
     have h:=ze1 (lo:=0) 2 (l:=zgr qv) (zaz wo wo.heap.size rfl 5 _ 2 1 rfl)
     have e:(zgr qv).map U8=[.int .u8 (192+(qv:Int)/256),.int .u8 ((qv:Int)%256)]:=by
      simp only[zgr,List.map_cons,List.map_nil,U8];rw[UInt8.toNat_ofNat',UInt8.toNat_ofNat',show(((192+qv/256)%2^8:Nat):Int)=192+(qv:Int)/256 by omega,show((qv%2^8:Nat):Int)=(qv:Int)%256 by omega]
     rw[e]at h;exact h
    have hov:¬9223372036854775807<X.length+(zgr qv).length:=by rw[zni];omega
    go_wp2_with fail
    go_ret2
    rw[HX1.out];exact⟨rfl,hT1.ext ((Ext.refl _).alloc _),hI.blw.trans (((Ext.refl wo).alloc _).mono (Nat.le_trans (by have:=ht.1;have:=ht.lt;omega) hI.kc.1)),hI.kc.trans (KeptC.ext ((Ext.refl _).alloc _))⟩
   ·have hno:qs=false→zbe T1 m=none:=fun e=>by
     rw[←Hq.out];have h2:=Hqs.out
     rw[e]at h2;rcases q with _|q
     ·rfl
     ·cases h2
    have hlo:lo≤w.heap.size:=by have:=ht.1;have:=ht.lt;omega
    obtain⟨lab,hlab⟩:∃lab,lab=m.take (1+c.toNat):=⟨_,rfl⟩
    have Hlab:=Lib.hid (show lab=c::(m.drop 1).take c.toNat by rw[hlab,Hm.out,Nat.add_comm,List.take_succ_cons];rfl)
    have hll:lab.length=1+c.toNat:=by rw[hlab,List.length_take];omega
    have hov:¬9223372036854775807<X.length+lab.length:=by omega
    have Hlab0:=Lib.hid hlab
    have Hll:=Lib.hid hll
    clear hlab hll;by_cases hadd:known=true∧qs=false∧X.length≤16383
    ·have HTp:=Lib.hid (show zbx known m X.length T1=T1++[(m,X.length)]by
      unfold zbx;rw[if_pos ⟨hadd.1,hno hadd.2.1,hadd.2.2⟩])
     obtain⟨rfl,rfl,hx16⟩:=hadd
     have hxi:(X.length:Int)≤16383:=by omega
     go_upto_region 8 with fail
     obtain⟨hl1,hnd1,A1,k1,t1,t2,t3,t4⟩:=hT1
     have htl:=hI.tl
     have htp:tp<wo.heap.size:=(Array.getElem?_eq_some_iff.1 t1).1
     have x0:wo.cell? ⟨tp,0,none⟩=some (.slice A1 T1.length k1):=za0 t1 rfl
     have f0:wo.frozen? ⟨tp,0,none⟩=false:=by simp[World.frozen?,t1]
     have ho0:Own (wo.alloc (.cells #[] 281)) wo.heap.size 281 2 (some ⟨wo.heap.size,0,none⟩) 0 0 []:=⟨rfl,.inr ⟨wo.heap.size,0,_,rfl,Nat.le_refl _,heap_alloc_new _ _,Nat.le_refl _,Nat.zero_le _,rfl,rfl⟩⟩
     go_wp2_with(first
      |(at_builtin
        refine zai _ rfl (.tmp 52) (.tmp 56) _ rfl wo.heap.size 281 i0 _ 2 24 Tryz.underlying204 hi0 hz0 hz1 hz2 rfl (by omega) (some ⟨wo.heap.size,0,none⟩) 0 0 [] rfl ho0 lo A1 T1.length k1 (T1.flatMap zlt) rfl (t4.ext ((Ext.refl _).alloc _)) (zv5 _) (by omega) (by omega) (by simp) ?_
        intro A2 c2 w2 ho2 hg2 hb2 hat2;rw[Nat.zero_add,List.nil_append]at ho2;rw[Nat.zero_add];have hE2:Ext wo w2:=((Ext.refl wo).alloc _).then hb2 (Nat.le_refl _)
        have y0:=(hE2.cell (p:=⟨tp,0,none⟩) htp).trans x0
        have g0:=(hE2.frozen (p:=⟨tp,0,none⟩) htp).trans f0)
      |(at_builtin
        refine zai _ rfl (.tmp 57) (.tmp 62) _ rfl wo.heap.size 281 i0 _ 2 24 Tryz.underlying204 hi0 hz0 hz1 hz2 rfl (by omega) A2 T1.length c2 (T1.flatMap zlt) rfl (ho2.ext ((Ext.refl _).alloc _)) 0 _ 1 1 ([(m,X.length)].flatMap zlt) rfl (zaz w2 w2.heap.size rfl _ _ 1 2 rfl) (zv5 _) (by omega) (by omega) (by have:=hE2.size;simp;omega) ?_
        intro A3 c3 w3 ho3 hg3 hb3 hat3;have hE3:Ext wo w3:=(hE2.alloc _).then hb3 (Nat.le_refl _)
        have z0:=(hE3.cell (p:=⟨tp,0,none⟩) htp).trans x0
        have j0:=(hE3.frozen (p:=⟨tp,0,none⟩) htp).trans f0)
      |fail)
     go_roundw
     case rel=>
      refine⟨_,_,T1++[(m,X.length)],rfl,rfl,rfl,rfl,zmb hI Hm.out h0 (fun h=>hc ⟨by first|rfl|(rw[←Hqs.out,Hq.out];exact h.1),h.2⟩) hcl hp' HTp.out ?_ ((hE3.mono (Nat.le_trans hlo hI.kc.1)).setCell hl1 _) ((KeptC.ext hE3).trans (KeptC.set _ _ _))⟩
      refine⟨hl1,?_,A3,c3,?_,?_⟩
      ·have h:=zqp (known:=true) (n:=m) (pos:=X.length) hnd1 hml
       rw[HTp.out]at h;exact h
      ·rw[List.length_append];exact zyl ((hE3.block _ htp).trans t1) _
      ·rw[List.length_append];have h5:=ho3.cap
       refine⟨h5.1,h5.2,?_⟩;have h6:=(ho3.set_other (p:=⟨tp,0,none⟩) htp (.slice A3 (T1.length+1) c3)).rd
       rw[List.flatMap_append];exact h6.lower (by omega)
     case measure=>
      simp only[zem,zcz];simp;omega
    ·have HTp:=Lib.hid (show zbx known m X.length T1=T1 by
      unfold zbx;rw[if_neg fun h=>hadd ⟨h.1,?_,h.2.2⟩]
      have h1:=Hq.out;have h2:=Hqs.out
      rw[←h1]at h;rw[←h2,h.2.1];rfl)
     rcases qs with _|_
     ·rcases known with _|_
      ·go_wp2_with fail;go_roundw
       case rel=>exact⟨_,_,T1,rfl,rfl,rfl,rfl,zmb hI Hm.out h0 (fun h=>hc ⟨by first|rfl|(rw[←Hqs.out,Hq.out];exact h.1),h.2⟩) hcl hp' HTp.out hT1 (Below.refl _ _) (KeptC.refl _ _)⟩
       case measure=>(simp only[zem,zcz]);simp;omega
      ·have hxi:¬((X.length:Int)≤16383):=fun h=>hadd ⟨rfl,rfl,by omega⟩
       go_wp2_with fail;go_roundw
       case rel=>exact⟨_,_,T1,rfl,rfl,rfl,rfl,zmb hI Hm.out h0 (fun h=>hc ⟨by first|rfl|(rw[←Hqs.out,Hq.out];exact h.1),h.2⟩) hcl hp' HTp.out hT1 (Below.refl _ _) (KeptC.refl _ _)⟩
       case measure=>(simp only[zem,zcz]);simp;omega
     ·rcases cmp with _|_
      ·rcases known with _|_
       all_goals
        go_wp2_with fail;go_roundw
        case rel=>exact⟨_,_,T1,rfl,rfl,rfl,rfl,zmb hI Hm.out h0 (fun h=>hc ⟨by first|rfl|(rw[←Hqs.out,Hq.out];exact h.1),h.2⟩) hcl hp' HTp.out hT1 (Below.refl _ _) (KeptC.refl _ _)⟩
        case measure=>(simp only[zem,zcz]);simp;omega
      ·exact absurd ⟨rfl,rfl⟩ hc
theorem zoa (kind:Int) (w:World):Calls Tryz.prog 223 #[.int .u16 kind] w fun e w'=>e=.returned (.bool (cmpOf kind))∧w=w':=by
 by_cases h2:kind=2
 ·subst h2;go_enter Tryz.func223,Tryz.ntmps223;go_wp2_with fail;go_ret;exact⟨rfl,rfl⟩
 by_cases h5:kind=5
 ·subst h5;go_enter Tryz.func223,Tryz.ntmps223;go_wp2_with fail;go_ret;exact⟨rfl,rfl⟩
 by_cases h6:kind=6
 ·subst h6;go_enter Tryz.func223,Tryz.ntmps223;go_wp2_with fail;go_ret;exact⟨rfl,rfl⟩
 by_cases h12:kind=12
 ·subst h12;go_enter Tryz.func223,Tryz.ntmps223;go_wp2_with fail;go_ret;exact⟨rfl,rfl⟩
 have f2:(kind==2)=false:=by rw[beq_eq_false_iff_ne];exact h2
 have f5:(kind==5)=false:=by rw[beq_eq_false_iff_ne];exact h5
 have f6:(kind==6)=false:=by rw[beq_eq_false_iff_ne];exact h6
 have f12:(kind==12)=false:=by rw[beq_eq_false_iff_ne];exact h12
 by_cases h15:kind=15
 ·subst h15;go_enter Tryz.func223,Tryz.ntmps223;go_wp2_with fail;go_ret;exact⟨rfl,rfl⟩
 have f15:(kind==15)=false:=by rw[beq_eq_false_iff_ne];exact h15
 have hc:cmpOf kind=false:=by unfold cmpOf;rw[decide_eq_false_iff_not];omega
 rw[hc];go_enter Tryz.func223,Tryz.ntmps223;go_wp2_with fail;go_ret;exact⟨rfl,rfl⟩
theorem zDy {kind:Int} {d:List UInt8} (h:rmay kind d=true) {p:Pr} (hp:p∈(zc1 kind d).getD []) (hn:p.nm=true):may p.s=true:=by
 have h1:(p.s,p.nm)∈zew (prR ((zc1 kind d).getD [])):=by
  unfold zew prR;rw[List.mem_filter];exact⟨List.mem_map.2 ⟨p,hp,rfl⟩,by unfold zr9;simp[hn]⟩
 rw[zn3]at h1;unfold zew prP at h1;rw[List.mem_filter]at h1;obtain⟨q,hq,e⟩:=List.mem_map.1 h1.1
 injection e with e1 e2
 rw[←e1];exact zq9 h hq (by rw[e2];exact hn)
structure RdwI (w:World) (tp lo:Nat) (cmp:Bool) (ps:List Pr) (R:List UInt8×Tab) (M k:Nat) (X:List UInt8) (T1:Tab) (wr:World):Prop where
 xl:X.length≤200000+k*M
 tab:TabR wr lo tp T1
 tl:T1.length≤X.length
 eq:R=(X++(zb5 cmp X.length (prR (ps.drop k)) T1).1,(zb5 cmp X.length (prR (ps.drop k)) T1).2)
 blw:Below lo w wr
 kc:KeptC tp w wr
theorem zE4 {w wo W:World} {tp lo M k:Nat} {cmp:Bool} {ps:List Pr} {R:List UInt8×Tab} {X:List UInt8} {T1:Tab} {p:Pr} (hI:RdwI w tp lo cmp ps R M k X T1 wo) (hp:ps.drop k=p::ps.drop (k+1)) (hn:p.nm=true) (hm:may p.s=true) (hM:255≤M)
 (ht2:TabR W lo tp (putN cmp cmp X.length p.s T1).2) (hB:Below lo wo W) (hK:KeptC tp wo W):RdwI w tp lo cmp ps R M (k+1) (X++(putN cmp cmp X.length p.s T1).1) (putN cmp cmp X.length p.s T1).2 W:=by
 have h1:=hI.xl
 have h2:=hI.tl
 have h3:=zfy cmp cmp X.length T1 hm
 have h4:=zi9 cmp cmp X.length p.s T1
 refine⟨by rw[List.length_append,Nat.add_mul];omega,ht2,by rw[List.length_append];omega,?_,hI.blw.trans hB,hI.kc.trans hK⟩
 rw[hI.eq,hp];unfold prR;rw[List.map_cons];simp only[zb5];rw[if_pos hn];simp only[List.length_append,List.append_assoc]
theorem zE5 {w wo W:World} {tp lo M k:Nat} {cmp:Bool} {ps:List Pr} {R:List UInt8×Tab} {X:List UInt8} {T1:Tab} {p:Pr} (hI:RdwI w tp lo cmp ps R M k X T1 wo) (hp:ps.drop k=p::ps.drop (k+1)) (hn:p.nm=false) (hM:p.s.length≤M)
 (hE:Ext wo W) (hlo:lo≤wo.heap.size):RdwI w tp lo cmp ps R M (k+1) (X++p.s) T1 W:=by
 have h1:=hI.xl
 have h2:=hI.tl
 refine⟨by rw[List.length_append,Nat.add_mul];omega,hI.tab.ext hE,by rw[List.length_append];omega,?_,hI.blw.trans (hE.mono hlo),hI.kc.trans (KeptC.ext hE)⟩
 rw[hI.eq,hp];unfold prR;rw[List.map_cons];simp only[zb5];rw[hn];simp only[Bool.false_eq_true,if_false,List.length_append,List.append_assoc]
theorem zx9 (lo tp:Nat) (T:Tab) (b:List UInt8) (kind:Int) (d:List UInt8) (w:World) (ht:TabR w lo tp T) (hb:b.length≤200000) (hT:T.length≤b.length) (hd:d.length≤200000) (hm:rmay kind d=true):
 Calls Tryz.prog 178 #[S b,.pointer (some ⟨tp,0,none⟩),.int .u16 kind,S d] w (zjq lo tp (b++(zdq b.length kind d T).1,(zdq b.length kind d T).2) w):=by
 have HW:=Lib.hid (zlp kind d w (by omega))
 unfold zhh at HW;have hbd:=zqq kind d
 have Hpm:=Lib.hid (fun p hp hn=>zDy (p:=p) hm hp hn)
 rw[zon,hm]at HW;obtain⟨R,hR⟩:∃R,R=(b++(zdq b.length kind d T).1,(zdq b.length kind d T).2):=⟨_,rfl⟩
 rw[←hR];rw[zyd]at hR;generalize (zc1 kind d).getD []=ps at*;obtain⟨cmp,hcmp⟩:∃cmp,cmp=cmpOf kind:=⟨_,rfl⟩
 have HCm:=Lib.hid hcmp
 rw[←hcmp]at hR;have hlo:lo≤w.heap.size:=by have:=ht.1;have:=ht.lt;omega
 have htp:=ht.lt
 have hTt:=ht
 clear hcmp;go_enter Tryz.func178,Tryz.ntmps178;go_wp2_with fail;refine HW.out.mono ?_;rintro e w1 ⟨v,rfl,hps,hE1⟩;obtain⟨A,c,rfl,hown⟩:=hps
 have hcap:=hown.cap
 have hne:(Value.slice A ps.length c).ownBlock≠some tp:=fun e=>by have:=(hown.blk tp e).1;omega
 have hI0:RdwI w1 tp lo cmp ps R (d.length+255) 0 b T w1:=⟨by omega,ht.ext hE1,hT,hR,Below.refl _ _,KeptC.refl _ _⟩
 clear hR;unfold maxLen at hcap;go_wp2_with fail
 go_loopw [0,12] (fun s0 s12 wr=>∃(k:Nat) (X:List UInt8) (T1:Tab),k≤ps.length∧s12=.int .i64 k∧s0=S X∧RdwI w1 tp lo cmp ps R (d.length+255) k X T1 wr) (fun _ s12 _=>ps.length - (intOf s12).toNat)
 case atStart=>exact⟨0,b,T,Nat.zero_le _,rfl,rfl,hI0⟩
 case round=>
  clear hI0;obtain⟨k,X,T1,hk,rfl,rfl,hI⟩:=hrel
  obtain⟨wo,rfl⟩:∃wo:World,wo=wr:=⟨_,rfl⟩
  by_cases hlt:k<ps.length
  ·obtain⟨g,rfl,_,_⟩:=hown.addr (by omega)
   have HS:=Lib.hid (show ps.drop k=ps[k]::ps.drop (k+1)from List.drop_eq_getElem_cons hlt)
   have hpm:=List.getElem_mem hlt
   have hbdp:=hbd.2 _ hpm
   have Hmay:=Lib.hid (Hpm.out _ hpm)
   have HC:=Lib.hid (fun V (hK:KeptC tp w1 V)=>(show V.cell? ⟨g,k*2,none⟩=some (S ps[k].s)∧V.cell? ⟨g,k*2+1,none⟩=some (.bool ps[k].nm)from by
    obtain⟨b',off',e,_,_,hc⟩:=(hown.keptC hK hne).rd.2 (by omega)
    injection e with e
    injection e with e1 e2
    subst e1 e2;have h:=zbd Pr.cells 2 (fun _=>rfl) ps k
    have h0:=hc (k*2+0) (S ps[k].s) (by rw[h 0 _ (List.getElem?_eq_getElem hlt) (by omega)];rfl)
    have h1:=hc (k*2+1) (.bool ps[k].nm) (by rw[h 1 _ (List.getElem?_eq_getElem hlt) (by omega)];rfl)
    simp only[Nat.zero_add,Nat.add_zero]at h0 h1;exact⟨h0,h1⟩))
   generalize ps[k]=p at*;obtain⟨x0,x1⟩:=HC.out wo hI.kc
   have hki:(k:Int)<(ps.length:Int):=by omega
   have hk0:(0:Int)≤(k:Int):=by omega
   have hloo:lo≤wo.heap.size:=by have:=hI.kc.1;have:=hE1.size;omega
   have hx4:X.length≤1048576:=by
    have h1:=hI.xl
    have h2:k*(d.length+255)≤4*(d.length+255):=Nat.mul_le_mul_right _ (by omega)
    omega
   rcases hnm:p.nm with _|_
   ·have hStep:=zE5 hI HS.out hnm hbdp (Ext.refl wo) hloo
    have HStep:=Lib.hid hStep
    clear hStep;rw[hnm]at x1;have hov:¬9223372036854775807<X.length+p.s.length:=by omega
    go_wp2_with fail;go_roundw
    case rel=>exact⟨k+1,X++p.s,T1,by omega,by go_num,rfl,HStep.out⟩
    case measure=>simp[intOf];omega
   ·have hm1:=Hmay.out hnm
    have HPut:=Lib.hid (fun V (hV:Ext wo V)=>zka lo tp T1 X p.s cmp cmp V (hI.tab.ext hV) hx4 hI.tl hm1)
    unfold zjq at HPut;have HStep:=Lib.hid (fun W hT5 hB hK=>zE4 (W:=W) hI HS.out hnm hm1 (by omega) hT5 hB hK)
    rw[hnm]at x1;have HCq:=Lib.hid (fun V=>zoa kind V)
    rw[←HCm.out]at HCq;have hK5x:∀V,KeptC tp wo.drew V→V.cell? ⟨g,k*2,none⟩=some (S p.s):=fun V hK=>(HC.out V ((hI.kc.trans (KeptC.ext (Ext.refl wo).drew)).trans hK)).1
    go_upto_region 8 with fail
    refine wp_region_noPanic ?_;refine zac (S:=(fun V=>V.cell? ⟨g,k*2,none⟩=some (S p.s))) (.take 0 (.take 1 (.take 2 (.take 3 (.take 4 (.take 5 (.take 6 (.take 7 (.take 9 (.run 8 (.run 10 (.run 11 (.take 12 (.take 13 (.take 14 (.take 15 (.done))))))))))))))))) (by kernel_rfl) (by kernel_rfl) (fun _ _ _ _ _ h=>h) ((by simpa using x0)) ?_
    repeat((with_reducible refine za9 ?_);first
     |(refine za2 (v:=?_) (by rfl) (by rfl) ?_ ?_;rotate_left;(focus(intro V hV;(try dsimp only at hV);(go_simp<;>with_reducible rfl)));(try simp only[ap]))
     |(refine zas (by rfl) (by rfl) ?_;(try simp only[ap])))
    refine za3 (by rfl) (fun K hK=>?_)
    go_simp;refine(HCq.out _).mono ?_;rintro e wq ⟨rfl,rfl⟩;refine hK.out _ _ ?_ ?_
    ·exact(by simpa using x0)
    clear hK K
    (try simp only[ap])
    refine za3 (by rfl) (fun K hK=>?_)
    go_simp;refine(HCq.out _).mono ?_;rintro e wq ⟨rfl,rfl⟩;refine hK.out _ _ ?_ ?_
    ·exact(by simpa using x0)
    clear hK K
    (try simp only[ap])
    refine za3 (by rfl) (fun K hK=>?_)
    go_simp;refine(HPut.out _ (Ext.refl wo).drew).mono ?_;rintro e w5 ⟨rfl,hT5,hB5,hK5⟩;refine hK.out _ _ ?_ ?_
    ·exact(hK5x w5 hK5)
    clear hK K
    (try simp only[ap])
    repeat((with_reducible refine za9 ?_);first
     |(refine za2 (v:=?_) (by rfl) (by rfl) ?_ ?_;rotate_left;(focus(intro V hV;(try dsimp only at hV);(go_simp<;>with_reducible rfl)));(try simp only[ap]))
     |(refine zas (by rfl) (by rfl) ?_;(try simp only[ap])))
    refine zar ?_;refine NoPanic.normal ?_;go_wp2_with fail;go_roundw
    case rel=>exact⟨k+1,_,_,by omega,by go_num,rfl,HStep.out w5 hT5 (((Ext.refl wo).drew.mono hloo).trans hB5) ((KeptC.ext (Ext.refl wo).drew).trans hK5)⟩
    case measure=>simp[intOf];omega
  ·obtain rfl:k=ps.length:=by omega
   have HF:=Lib.hid (show R=(X,T1)by rw[hI.eq,List.drop_length];simp[prR,zb5])
   go_wp2_with fail
   go_ret2
   rw[HF.out];exact⟨rfl,hI.tab,(hE1.mono hlo).trans hI.blw,(KeptC.ext hE1).trans hI.kc⟩
theorem zct (n:Nat) (w:World) (hn:n<65536):Calls Tryz.prog 117 #[.int .u64 n,.int .i64 2] w fun e w'=>e=.returned (S (two n))∧Ext w w':=zsp n 2 w (by omega) (by omega)
theorem zqh (n:Nat) (w:World) (hn:n<4294967296):Calls Tryz.prog 117 #[.int .u64 n,.int .i64 4] w fun e w'=>e=.returned (S (zdt n))∧Ext w w':=by
 have h:=zsp n 4 w (by omega) hn
 rw[zz7]at h;exact h
def zAh (e:EdD) (w:World) (x:Ending) (w':World):Prop:=
 ((65535<(zfg e).length∧x=.returned (.tuple #[.int .u16 0,.int .u32 0,S [],.int .i64 5]))∨(¬65535<(zfg e).length∧x=.returned (.tuple #[.int .u16 e.size,.int .u32 (zd4 e:Nat),S (zfg e),.int .i64 0])))∧Ext w w'
theorem zxb (e:EdD) (v:Value) (w:World) (hv:Opts w 0 v e.opts) (h1:0≤e.ext∧e.ext≤255) (h2:0≤e.ver∧e.ver≤255) (h3:0≤e.flags∧e.flags≤65535) (h4:∀o∈e.opts,0≤o.code∧o.code≤65535):
 Calls Tryz.prog 119 #[edV e v] w (zAh e w):=by
 obtain⟨sz,ex,ve,fl,l⟩:=e
 dsimp only at*;obtain⟨xn,rfl⟩:=Int.eq_ofNat_of_zero_le h1.1
 obtain⟨vn,rfl⟩:=Int.eq_ofNat_of_zero_le h2.1
 obtain⟨fn,rfl⟩:=Int.eq_ofNat_of_zero_le h3.1
 have Hot:=Lib.hid (show zd4 ⟨sz,xn,vn,fn,l⟩=xn*16777216+vn*65536+fn by unfold zd4;simp only[Int.toNat_natCast])
 have Hops:=Lib.hid (zsb ⟨sz,xn,vn,fn,l⟩)
 obtain⟨A,c,rfl,hlc,hcm,hrd⟩:=hv
 unfold maxLen at hcm;obtain⟨X0,hX0⟩:∃X0,X0=w.alloc (.cells #[.int .u16 sz,.int .u8 (xn:Int),.int .u8 (vn:Int),.int .u16 (fn:Int),.slice A l.length c] 43):=⟨_,rfl⟩
 have hw0:Ext w X0:=by rw[hX0];exact(Ext.refl _).alloc _
 have r0:X0.heap[w.heap.size]? =some (.cells #[.int .u16 sz,.int .u8 (xn:Int),.int .u8 (vn:Int),.int .u16 (fn:Int),.slice A l.length c] 43):=by rw[hX0];exact heap_alloc_new _ _
 have K0:=Lib.hid (fun V (hV:Ext X0 V)=>(hV.block _ (Array.getElem?_eq_some_iff.1 r0).1).trans r0)
 go_enter Tryz.func119,Tryz.ntmps119;go_upto_region 1 with fail
 rw[←hX0];clear hX0;go_wp2_with fail
 go_loopw [2,3,4,5,6,7] (fun s2 s3 s4 s5 s6 s7 wr=>∃k:Nat,k≤l.length∧s7=.int .i64 k∧s6=S (opsW (l.take k))∧(opsW (l.take k)).length≤65535∧Ext X0 wr∧s2=.int .u16 0∧s3=.int .u32 0∧s4=.string ⟨#[]⟩∧s5=.int .i64 0) (fun _ _ _ _ _ s7 _=>l.length - (intOf s7).toNat)
 case atStart=>exact⟨0,Nat.zero_le _,rfl,rfl,by simp[opsW],Ext.refl _,rfl,rfl,rfl,rfl⟩
 case round=>
  obtain⟨k,hk,rfl,rfl,htl,hE,rfl,rfl,rfl,rfl⟩:=hrel
  obtain⟨wo,rfl⟩:∃wo:World,wo=wr:=⟨_,rfl⟩
  have q4:wo.cell? ⟨w.heap.size,4,none⟩=some (.slice A l.length c):=za0 (K0.out _ hE) rfl
  by_cases hlt:k<l.length
  ·obtain⟨b,off,rfl,_,hbz,hc⟩:=(hrd.ext (hw0.trans hE)).2 (by omega)
   obtain⟨c0,c1⟩:=zk0 hc k l[k] (List.getElem?_eq_getElem hlt)
   have Hst:=Lib.hid (zle l k hlt)
   have hle:=zp7 l (k+1)
   have hwo:=h4 l[k] (List.getElem_mem hlt)
   generalize l[k]=o at*;generalize opsW (l.take k)=T at*;clear hc;obtain⟨oc,od⟩:=o
   dsimp only at*;obtain⟨on,rfl⟩:=Int.eq_ofNat_of_zero_le hwo.1
   have hon:(on:Int)≤65535:=hwo.2
   have hon0:(0:Int)≤(on:Int):=hwo.1
   have hki:(k:Int)<(l.length:Int):=by omega
   have hk0:(0:Int)≤(k:Int):=by omega
   have Hop:=Lib.hid (show opW ⟨(on:Int),od⟩=two on++two od.length++od by unfold opW;simp only[Int.toNat_natCast])
   have Htl:=Lib.hid (show(opsW (l.take (k+1))).length=T.length+(4+od.length)by rw[Hst.out,List.length_append,zp6])
   by_cases hbig:65535<od.length
   ·have hb1:(65535:Int)<(od.length:Int):=by omega
    have hgt:65535<(opsW l).length:=by have:=Htl.out;omega
    have Hgt:=Lib.hid hgt
    clear hgt;go_wp2_with fail;refine bodyPost_ret (zea rfl _ _ _) rfl ⟨.inl ⟨by rw[Hops.out];exact Hgt.out,rfl⟩,hw0.trans (hE.alloc _)⟩
   ·have hb1:¬((65535:Int)<(od.length:Int)):=by omega
    have hbu:(od.length:Int)≤65535:=by omega
    have hP1:=Lib.hid (fun V=>zct on V (by omega))
    have hP2:=Lib.hid (fun V=>zct od.length V (by omega))
    go_upto_region 8 with fail
    obtain⟨X5,hX5⟩:∃X5,X5=wo.alloc (.cells #[.int .u16 (on:Int),S od] 182):=⟨_,rfl⟩
    have hE5:Ext wo X5:=by rw[hX5];exact(Ext.refl _).alloc _
    obtain⟨gO,hgO⟩:∃gO,gO=wo.heap.size:=⟨_,rfl⟩
    have r5:X5.heap[gO]? =some (.cells #[.int .u16 (on:Int),S od] 182):=by rw[hX5,hgO];exact heap_alloc_new _ _
    have HS5:=Lib.hid (fun V (hV:Ext X5 V)=>(show V.cell? ⟨gO,0,none⟩=some (.int .u16 (on:Int))∧V.cell? ⟨gO,1,none⟩=some (S od)from by
     have:=(hV.block _ (Array.getElem?_eq_some_iff.1 r5).1).trans r5
     exact⟨za0 this rfl,za0 this rfl⟩))
    rw[←hX5,←hgO];clear hX5 hgO r5;have hu1:IntKind.u64.wrap (on:Int)=(on:Int):=IntWalk.u64_in _ (by omega)
    have hu2:IntKind.u64.wrap (od.length:Int)=(od.length:Int):=IntWalk.u64_in _ (by omega)
    have o1:¬9223372036854775807<T.length+(two on).length:=by rw[zak];omega
    have o2:¬9223372036854775807<T.length+(two on).length+(two od.length).length:=by rw[zak,zak];omega
    have o3:¬9223372036854775807<T.length+((two on).length+(two od.length).length)+od.length:=by rw[zak,zak];omega
    refine wp_region_noPanic ?_;refine zac (S:=(fun V=>V.cell? ⟨gO,0,none⟩=some (.int .u16 (on:Int))∧V.cell? ⟨gO,1,none⟩=some (S od))) (.take 0 (.take 1 (.take 2 (.take 3 (.take 6 (.take 7 (.take 8 (.take 9 (.take 12 (.take 13 (.run 4 (.take 5 (.run 10 (.take 11 (.take 14 (.take 15 (.done))))))))))))))))) (by kernel_rfl) (by kernel_rfl) (fun _ _ _ _ _ h=>h) ((HS5.out _ (Ext.refl X5).drew)) ?_
    repeat((with_reducible refine za9 ?_);first
     |(refine za2 (v:=?_) (by rfl) (by rfl) ?_ ?_;rotate_left;(focus(intro V hV;(try dsimp only at hV);(go_simp<;>with_reducible rfl)));(try simp only[ap]))
     |(refine zas (by rfl) (by rfl) ?_;(try simp only[ap])))
    refine za3 (by rfl) (fun K hK=>?_)
    go_simp;refine(hP1.out _).mono ?_;rintro e w6 ⟨rfl,hE6'⟩;have hE6:Ext X5 w6:=Ext.trans ((Ext.refl X5).drew) hE6'
    refine hK.out _ _ ?_ ?_
    ·exact(HS5.out _ hE6)
    clear hK K
    (try simp only[ap])
    repeat((with_reducible refine za9 ?_);first
     |(refine za2 (v:=?_) (by rfl) (by rfl) ?_ ?_;rotate_left;(focus(intro V hV;(try dsimp only at hV);(go_simp<;>with_reducible rfl)));(try simp only[ap]))
     |(refine zas (by rfl) (by rfl) ?_;(try simp only[ap])))
    refine za3 (by rfl) (fun K hK=>?_)
    go_simp;refine(hP2.out _).mono ?_;rintro e w7 ⟨rfl,hE7'⟩;have hE7:Ext X5 w7:=hE6.trans hE7'
    refine hK.out _ _ ?_ ?_
    ·exact(HS5.out _ hE7)
    clear hK K
    (try simp only[ap])
    repeat((with_reducible refine za9 ?_);first
     |(refine za2 (v:=?_) (by rfl) (by rfl) ?_ ?_;rotate_left;(focus(intro V hV;(try dsimp only at hV);(go_simp<;>with_reducible rfl)));(try simp only[ap]))
     |(refine zas (by rfl) (by rfl) ?_;(try simp only[ap])))
    refine zar ?_;refine NoPanic.normal ?_;go_wp2_with fail
    ·refine bodyPost_ret (zea rfl _ _ _) rfl ⟨.inl ⟨by rw[Hops.out];have h1:=Htl.out;have h2:=zak on;have h3:=zak od.length;omega,rfl⟩,hw0.trans (hE.trans (hE5.trans hE7))⟩
    ·go_roundw
     case rel=>exact⟨k+1,by omega,by go_num,by rw[Hst.out,Hop.out];simp only[List.append_assoc],by rw[Htl.out];have h2:=zak on;have h3:=zak od.length;omega,hE.trans (hE5.trans hE7),rfl,rfl,rfl,rfl⟩
     case measure=>simp[intOf];omega
  ·obtain rfl:k=l.length:=by omega
   rw[List.take_length]at htl ⊢;have hle0:¬65535<(opsW l).length:=by omega
   have q0:wo.cell? ⟨w.heap.size,0,none⟩=some (.int .u16 sz):=za0 (K0.out _ hE) rfl
   have q1:wo.cell? ⟨w.heap.size,1,none⟩=some (.int .u8 (xn:Int)):=za0 (K0.out _ hE) rfl
   have q2:wo.cell? ⟨w.heap.size,2,none⟩=some (.int .u8 (vn:Int)):=za0 (K0.out _ hE) rfl
   have q3:wo.cell? ⟨w.heap.size,3,none⟩=some (.int .u16 (fn:Int)):=za0 (K0.out _ hE) rfl
   have Hle:=Lib.hid hle0
   clear hle0;go_upto_region 11 with fail
   go_quiet (fail)
   go_wp2_with fail;have Hv:=Lib.hid (show(xn:Int)*16777216+(vn:Int)*65536+(fn:Int)=((zd4 ⟨sz,xn,vn,fn,l⟩:Nat):Int)by rw[Hot.out];omega)
   rw[Hv.out];refine bodyPost_ret (zea rfl _ _ _) rfl ⟨.inr ⟨by rw[Hops.out];exact Hle.out,by rw[Hops.out];rfl⟩,(hw0.trans hE).drewN _⟩
theorem zlo (v:Value) (l:List RecD) (w:World) (h:Recs w 0 v l) (hok:∀r∈l,zfh r):
 Calls Tryz.prog 174 #[v] w fun e w'=>e=.returned (.bool (decide (l.length≤65535)&&l.all zae))∧Ext w w':=by
 obtain⟨A,c,rfl,h1,h2,hrd⟩:=h
 unfold maxLen at h2;by_cases hbig:65535<l.length
 ·have hb:(65535:Int)<(l.length:Int):=by omega
  have hd:(decide (l.length≤65535)&&l.all zae)=false:=by rw[decide_eq_false (by omega)];rfl
  rw[hd];go_enter Tryz.func174,Tryz.ntmps174;go_wp2_with fail;go_ret;exact⟨rfl,Ext.refl _⟩
 have hb:¬(65535:Int)<(l.length:Int):=by omega
 have hd:(decide (l.length≤65535)&&l.all zae)=l.all zae:=by rw[decide_eq_true (by omega)];rfl
 rw[hd];clear hd;obtain⟨R,hR⟩:∃R,R=l.all zae:=⟨_,rfl⟩
 rw[←hR];have HR:=Lib.hid hR
 clear hR;go_enter Tryz.func174,Tryz.ntmps174;go_wp2_with fail
 go_loopw [3] (fun s3 wr=>∃k:Nat,k≤l.length∧s3=.int .i64 k∧Hid (R=(l.drop k).all zae)∧Ext w wr) (fun s3 _=>l.length - (intOf s3).toNat)
 case atStart=>exact⟨0,Nat.zero_le _,rfl,by simpa using HR,Ext.refl _⟩
 case round=>
  obtain⟨k,hk,rfl,HR1,hE⟩:=hrel
  obtain⟨wo,rfl⟩:∃wo:World,wo=wr:=⟨_,rfl⟩
  by_cases hlt:k<l.length
  ·obtain⟨b,off,rfl,_,hbz,hc⟩:=(hrd.ext hE).2 (by omega)
   obtain⟨x0,x1,x2,x3,x4⟩:=zdb hc k l[k] (List.getElem?_eq_getElem hlt)
   have HD:=Lib.hid (show(l.drop k).all zae=(zae l[k]&&(l.drop (k+1)).all zae)by rw[List.drop_eq_getElem_cons hlt];rfl)
   have Hro:=Lib.hid (zzd l[k])
   have hrk:=hok l[k] (List.getElem_mem hlt)
   generalize l[k]=r at*;obtain⟨nm,ty,cl,tt,da⟩:=r
   dsimp only at*;unfold zfh at hrk;have hki:(k:Int)<(l.length:Int):=by omega
   have hk0:(0:Int)≤(k:Int):=by omega
   have HM:=Lib.hid (fun V=>zc7 nm V hrk.1)
   have HRm:=Lib.hid (fun V=>zkc ty da V hrk.2)
   have HS:=Lib.hid (fun V (hV:Ext wo V)=>(show V.cell? ⟨b,off+k*5,none⟩=some (S nm)∧V.cell? ⟨b,off+k*5+1,none⟩=some (.int .u16 ty)∧V.cell? ⟨b,off+k*5+4,none⟩=some (S da)from
    ⟨(hV.cell (p:=⟨b,off+k*5,none⟩) hbz).trans x0,(hV.cell (p:=⟨b,off+k*5+1,none⟩) hbz).trans x1,(hV.cell (p:=⟨b,off+k*5+4,none⟩) hbz).trans x4⟩))
   clear hc;rcases hm:may nm with _|_
   ·rw[hm]at HM;have HF:=Lib.hid (show R=false by rw[HR1.out,HD.out,Hro.out,hm];rfl)
    go_upto_region 6 with fail
    refine wp_region_noPanic ?_;refine zac (S:=(fun V=>V.cell? ⟨b,off+k*5,none⟩=some (S nm)∧V.cell? ⟨b,off+k*5+1,none⟩=some (.int .u16 ty)∧V.cell? ⟨b,off+k*5+4,none⟩=some (S da))) (.take 0 (.take 1 (.take 2 (.take 3 (.take 4 (.run 5 (.take 6 (.take 7 (.take 8 (.take 9 (.take 10 (.take 11 (.take 12 (.take 13 (.take 14 (.take 15 (.take 16 (.take 17 (.take 18 (.take 19 (.take 20 (.done)))))))))))))))))))))) (by kernel_rfl) (by kernel_rfl) (fun _ _ _ _ _ h=>h) ((HS.out _ (Ext.refl wo).drew)) ?_
    repeat((with_reducible refine za9 ?_);first
     |(refine za2 (v:=?_) (by rfl) (by rfl) ?_ ?_;rotate_left;(focus(intro V hV;(try dsimp only at hV);(go_simp<;>with_reducible rfl)));(try simp only[ap]))
     |(refine zas (by rfl) (by rfl) ?_;(try simp only[ap])))
    refine za3 (by rfl) (fun K hK=>?_)
    go_simp;refine(HM.out _).mono ?_;rintro e w6 ⟨rfl,hE6'⟩;have hE6:Ext wo w6:=Ext.trans ((Ext.refl wo).drew) hE6'
    refine hK.out _ _ ?_ ?_
    ·exact(HS.out _ hE6)
    clear hK K
    (try simp only[ap])
    repeat((with_reducible refine za9 ?_);first
     |(refine za2 (v:=?_) (by rfl) (by rfl) ?_ ?_;rotate_left;(focus(intro V hV;(try dsimp only at hV);(go_simp<;>with_reducible rfl)));(try simp only[ap]))
     |(refine zas (by rfl) (by rfl) ?_;(try simp only[ap])))
    refine zar ?_;refine NoPanic.normal ?_;go_wp2_with fail;go_ret;exact⟨by rw[HF.out];rfl,hE.trans hE6⟩
   ·rw[hm]at HM;rcases hrm:rmay ty da with _|_
    ·rw[hrm]at HRm;have HF:=Lib.hid (show R=false by rw[HR1.out,HD.out,Hro.out,hm,hrm];rfl)
     go_upto_region 6 with fail
     refine wp_region_noPanic ?_;refine zac (S:=(fun V=>V.cell? ⟨b,off+k*5,none⟩=some (S nm)∧V.cell? ⟨b,off+k*5+1,none⟩=some (.int .u16 ty)∧V.cell? ⟨b,off+k*5+4,none⟩=some (S da))) (.take 0 (.take 1 (.take 2 (.take 3 (.take 4 (.run 5 (.take 6 (.take 7 (.take 8 (.take 9 (.take 10 (.take 11 (.take 12 (.take 13 (.take 14 (.take 15 (.take 16 (.take 17 (.run 18 (.take 19 (.take 20 (.done)))))))))))))))))))))) (by kernel_rfl) (by kernel_rfl) (fun _ _ _ _ _ h=>h) ((HS.out _ (Ext.refl wo).drew)) ?_
     repeat((with_reducible refine za9 ?_);first
      |(refine za2 (v:=?_) (by rfl) (by rfl) ?_ ?_;rotate_left;(focus(intro V hV;(try dsimp only at hV);(go_simp<;>with_reducible rfl)));(try simp only[ap]))
      |(refine zas (by rfl) (by rfl) ?_;(try simp only[ap])))
     refine za3 (by rfl) (fun K hK=>?_)
     go_simp;refine(HM.out _).mono ?_;rintro e w6 ⟨rfl,hE6'⟩;have hE6:Ext wo w6:=Ext.trans ((Ext.refl wo).drew) hE6'
     refine hK.out _ _ ?_ ?_
     ·exact(HS.out _ hE6)
     clear hK K
     (try simp only[ap])
     repeat((with_reducible refine za9 ?_);first
      |(refine za2 (v:=?_) (by rfl) (by rfl) ?_ ?_;rotate_left;(focus(intro V hV;(try dsimp only at hV);(go_simp<;>with_reducible rfl)));(try simp only[ap]))
      |(refine zas (by rfl) (by rfl) ?_;(try simp only[ap])))
     refine za3 (by rfl) (fun K hK=>?_)
     go_simp;refine(HRm.out _).mono ?_;rintro e w7 ⟨rfl,hE7'⟩;have hE7:Ext wo w7:=hE6.trans hE7'
     refine hK.out _ _ ?_ ?_
     ·exact(HS.out _ hE7)
     clear hK K
     (try simp only[ap])
     repeat((with_reducible refine za9 ?_);first
      |(refine za2 (v:=?_) (by rfl) (by rfl) ?_ ?_;rotate_left;(focus(intro V hV;(try dsimp only at hV);(go_simp<;>with_reducible rfl)));(try simp only[ap]))
      |(refine zas (by rfl) (by rfl) ?_;(try simp only[ap])))
     refine zar ?_;refine NoPanic.normal ?_;go_wp2_with fail;go_ret;exact⟨by rw[HF.out];rfl,hE.trans hE7⟩
    ·rw[hrm]at HRm;have HF:=Lib.hid (show R=(l.drop (k+1)).all zae by rw[HR1.out,HD.out,Hro.out,hm,hrm];rfl)
     go_upto_region 6 with fail
     refine wp_region_noPanic ?_;refine zac (S:=(fun V=>V.cell? ⟨b,off+k*5,none⟩=some (S nm)∧V.cell? ⟨b,off+k*5+1,none⟩=some (.int .u16 ty)∧V.cell? ⟨b,off+k*5+4,none⟩=some (S da))) (.take 0 (.take 1 (.take 2 (.take 3 (.take 4 (.run 5 (.take 6 (.take 7 (.take 8 (.take 9 (.take 10 (.take 11 (.take 12 (.take 13 (.take 14 (.take 15 (.take 16 (.take 17 (.run 18 (.take 19 (.take 20 (.done)))))))))))))))))))))) (by kernel_rfl) (by kernel_rfl) (fun _ _ _ _ _ h=>h) ((HS.out _ (Ext.refl wo).drew)) ?_
     repeat((with_reducible refine za9 ?_);first
      |(refine za2 (v:=?_) (by rfl) (by rfl) ?_ ?_;rotate_left;(focus(intro V hV;(try dsimp only at hV);(go_simp<;>with_reducible rfl)));(try simp only[ap]))
      |(refine zas (by rfl) (by rfl) ?_;(try simp only[ap])))
     refine za3 (by rfl) (fun K hK=>?_)
     go_simp;refine(HM.out _).mono ?_;rintro e w6 ⟨rfl,hE6'⟩;have hE6:Ext wo w6:=Ext.trans ((Ext.refl wo).drew) hE6'
     refine hK.out _ _ ?_ ?_
     ·exact(HS.out _ hE6)
     clear hK K
     (try simp only[ap])
     repeat((with_reducible refine za9 ?_);first
      |(refine za2 (v:=?_) (by rfl) (by rfl) ?_ ?_;rotate_left;(focus(intro V hV;(try dsimp only at hV);(go_simp<;>with_reducible rfl)));(try simp only[ap]))
      |(refine zas (by rfl) (by rfl) ?_;(try simp only[ap])))
     refine za3 (by rfl) (fun K hK=>?_)
     go_simp;refine(HRm.out _).mono ?_;rintro e w7 ⟨rfl,hE7'⟩;have hE7:Ext wo w7:=hE6.trans hE7'
     refine hK.out _ _ ?_ ?_
     ·exact(HS.out _ hE7)
     clear hK K
     (try simp only[ap])
     repeat((with_reducible refine za9 ?_);first
      |(refine za2 (v:=?_) (by rfl) (by rfl) ?_ ?_;rotate_left;(focus(intro V hV;(try dsimp only at hV);(go_simp<;>with_reducible rfl)));(try simp only[ap]))
      |(refine zas (by rfl) (by rfl) ?_;(try simp only[ap])))
     refine zar ?_;refine NoPanic.normal ?_;go_wp2_with fail;go_roundw
     case rel=>exact⟨k+1,by omega,by go_num,HF,hE.trans hE7⟩
     case measure=>simp[intOf];omega
  ·obtain rfl:k=l.length:=by omega
   have HF:=Lib.hid (show R=true by rw[HR1.out,List.drop_length];rfl)
   go_wp2_with fail;go_ret;exact⟨by rw[HF.out];rfl,hE⟩
end Go.Proofs.YtdnpmapelmjfpaaGreatDoor
