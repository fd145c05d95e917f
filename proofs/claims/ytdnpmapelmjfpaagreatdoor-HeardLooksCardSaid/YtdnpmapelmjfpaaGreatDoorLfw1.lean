/- Lemmas of this claim. No condition. -/
import Derived.Test.YtdnpmapelmjfpaaGreatDoorLrz
set_option maxHeartbeats 4000000
set_option linter.unusedVariables false
set_option linter.unusedSimpArgs false
set_option maxRecDepth 100000
namespace Go.Proofs.YtdnpmapelmjfpaaGreatDoor
def putB:Nat→Nat→List UInt8
 |0,_=>[]
 |k+1,n=>putB k (n/256)++[UInt8.ofNat n]
theorem ztr:∀(k n:Nat),(putB k n).length=k
 |0,_=>rfl
 |k+1,n=>by simp only[putB,Z6,ztr k];rfl
theorem zrd:∀(k n:Nat),putB (k+1) n=UInt8.ofNat (n/256^k)::putB k n
 |0,n=>by simp[putB]
 |k+1,n=>by
  have h:=zrd k (n/256)
  rw[show putB (k+1+1) n=putB (k+1) (n/256)++[UInt8.ofNat n]from rfl,h,show putB (k+1) n=putB k (n/256)++[UInt8.ofNat n]from rfl,Nat.div_div_eq_div_mul,Nat.pow_succ,Nat.mul_comm (256^k) 256]
  rfl
theorem zAz (n:Nat):putB 4 n=zdp n:=by
 show[UInt8.ofNat (n/256/256/256),UInt8.ofNat (n/256/256),UInt8.ofNat (n/256),UInt8.ofNat n]=_
 unfold zdp;rw[Nat.div_div_eq_div_mul,Nat.div_div_eq_div_mul,Nat.div_div_eq_div_mul]
theorem zpm (known:Bool) (n:List UInt8) (pos:Nat) (t:Tab):(zbs known n pos t).length≤t.length+1:=by
 unfold zbs;split
 ·simp
 ·omega
theorem zts (cmp known:Bool):∀(f pos:Nat) (n:List UInt8) (t:Tab),(ze1 cmp known f pos n t).2.length≤t.length+(ze1 cmp known f pos n t).1.length
 |0,_,_,_=>by simp[ze1]
 |_+1,_,[],_=>by simp[ze1]
 |f+1,pos,b::r,t=>by
  simp only[ze1];split
  ·dsimp only;omega
  ·split
   ·dsimp only;omega
   ·have h1:=zts cmp known f (pos+(1+b.toNat)) (r.drop b.toNat) (zbs known (b::r) pos t)
    have h2:=zpm known (b::r) pos t
    dsimp only;simp only[Z6,List.length_cons];omega
theorem zio (cmp known:Bool) (pos:Nat) (n:List UInt8) (t:Tab):(putN cmp known pos n t).2.length≤t.length+(putN cmp known pos n t).1.length:=zts _ _ _ _ _ _
theorem zkp (cmp:Bool):∀(pos:Nat) (l:List (List UInt8×Bool)) (t:Tab),(zay cmp pos l t).2.length≤t.length+(zay cmp pos l t).1.length
 |_,[],_=>by simp[zay]
 |pos,(x,nm)::l,t=>by
  simp only[zay];split
  ·have h1:=zkp cmp (pos+(putN cmp cmp pos x t).1.length) l (putN cmp cmp pos x t).2
   have h2:=zio cmp cmp pos x t
   dsimp only;simp only[Z6];omega
  ·have h1:=zkp cmp (pos+x.length) l t
   dsimp only;simp only[Z6];omega
theorem zzx (pos:Nat) (kind:Int) (d:List UInt8) (t:Tab):(zdo pos kind d t).2.length≤t.length+(zdo pos kind d t).1.length:=zkp _ _ _ _
def zsd (p:List UInt8×Bool):Bool:=p.2|| !p.1.isEmpty
def zeu (l:List (List UInt8×Bool)):List (List UInt8×Bool):=l.filter zsd
def prP (l:List Pc):List (List UInt8×Bool):=l.map fun p=>(p.text,p.nm)
def prR (l:List Pr):List (List UInt8×Bool):=l.map fun p=>(p.s,p.nm)
def zhp (A:List Pc×Nat) (B:List Pr×Nat):Prop:=(A.2=0↔B.2=0)∧(A.2=0→zeu (prP A.1)=zeu (prR B.1))
theorem zdu {e f:Nat} (he:e≠0) (hf:f≠0):zhp ([],e) ([],f):=⟨by simp[he,hf],by simp[he]⟩
theorem zir {a:List Pc} {b:List Pr} (h1:zeu (prP a)=zeu (prR b)):zhp (a,0) (b,0):=⟨by simp,fun _=>h1⟩
theorem zyx (msg:List UInt8) (behind pos:Nat) (hp:pos≤msg.length):zhp (zab (zch behind) msg pos) (zan msg behind 0 pos []):=by
 unfold zch;simp only[zan];by_cases hb:behind=0
 ·subst hb;rw[if_pos rfl,if_neg (by omega)]
  simp only[zab];by_cases h:pos<msg.length
  ·rw[if_pos h,if_pos (by omega)];exact zdu (by decide) (by decide)
  ·rw[if_neg h,if_neg (by omega),List.drop_of_length_le (by omega)];exact zir rfl
 ·rw[if_neg hb];by_cases h:msg.length - pos<behind
  ·rw[if_pos h,zc1 (by simp[zaa,h])]
   simp only[zaa,h,if_true];exact zdu (by decide) (by decide)
  ·rw[if_neg h];have hr:zaa ⟨0,behind⟩ msg pos=(⟨(msg.drop pos).take behind,false,pos+behind⟩,0):=by simp[zaa,h]
   by_cases h2:behind<msg.length - pos
   ·rw[if_pos h2,zcz (by rw[hr]) (by rw[hr];simp only[zab];rw[if_pos (by omega)];decide),hr]
    simp only[zab];rw[if_pos (by omega)]
    exact zdu (by decide) (by decide)
   ·rw[if_neg h2,zbp (by rw[hr]) (by rw[hr];simp only[zab];rw[if_neg (by omega)]),hr]
    simp only[zab];rw[if_neg (by omega)]
    have e:(msg.drop pos).take behind=msg.drop pos:=List.take_of_length_le (by simp;omega)
    rw[e];exact zir rfl
theorem zpi {p:Pc} {q:Pr} {A:List Pc×Nat} {B:List Pr×Nat} (h:zhp A B) (hA:A.2=0) (h1:p.text=q.s) (h2:p.nm=q.nm):zhp (p::A.1,0) (q::B.1,0):=by
 have h3:=h.2 hA
 refine zir ?_;unfold zeu prP prR at*;rw[List.map_cons,List.map_cons,List.filter_cons,List.filter_cons,h1,h2,h3]
theorem zjm (msg:List UInt8) (behind:Nat):∀(n pos:Nat),pos≤msg.length→zhp (zab (List.replicate n ⟨1,0⟩++zch behind) msg pos) (zan msg behind n pos [])
 |0,pos,hp=>by simpa using zyx msg behind pos hp
 |n+1,pos,hp=>by
  rw[List.replicate_succ,List.cons_append];simp only[zan];by_cases h:(readN msg pos).2.2=0
  ·have hr:zaa ⟨1,0⟩ msg pos=(⟨(readN msg pos).1,true,(readN msg pos).2.1⟩,0):=by simp[zaa,h]
   have ih:=zjm msg behind n (readN msg pos).2.1 (ze2 msg pos).1
   rw[if_neg (by simp[h])]
   have ha:=zfm msg behind n (readN msg pos).2.1 [⟨(readN msg pos).1,true⟩] []
   rw[List.append_nil]at ha;rw[List.nil_append,ha];by_cases h2:(zab (List.replicate n ⟨1,0⟩++zch behind) msg (readN msg pos).2.1).2=0
   ·rw[zbp (by rw[hr]) (by rw[hr];exact h2),hr,if_pos (ih.1.1 h2)]
    exact zpi ih h2 rfl rfl
   ·have h3:(zan msg behind n (readN msg pos).2.1 []).2≠0:=fun e=>h2 (ih.1.2 e)
    rw[zcz (by rw[hr]) (by rw[hr];exact h2),hr,if_neg h3]
    have:=zh4 h3
    have e:zan msg behind n (readN msg pos).2.1 []=([],(zan msg behind n (readN msg pos).2.1 []).2):=Prod.ext this rfl
    rw[e];exact zdu h2 h3
  ·rw[if_pos h];have hr:zaa ⟨1,0⟩ msg pos=(Pc.zero,(readN msg pos).2.2):=by simp[zaa,h]
   rw[zc1 (by rw[hr];exact h),hr]
   exact zdu h h
theorem zBh (msg:List UInt8) (ahead names behind pos:Nat) (hp:pos≤msg.length):
 zhp (zab (zch ahead++(List.replicate names ⟨1,0⟩++zch behind)) msg pos) (if msg.length - pos<ahead then([],4)else zan msg behind names (pos+ahead) [⟨(msg.drop pos).take ahead,false⟩]):=by
 have ha:=fun q=>zfm msg behind names q [⟨(msg.drop pos).take ahead,false⟩] []
 simp only[List.append_nil]at ha;by_cases h0:ahead=0
 ·subst h0;rw[if_neg (by omega),ha]
  have h1:zch 0=[]:=rfl
  rw[h1,List.nil_append];have ih:=zjm msg behind names pos hp
  have e0:pos+0=pos:=rfl
  rw[e0];by_cases h2:(zan msg behind names pos []).2=0
  ·rw[if_pos h2];have h3:=ih.1.2 h2
   refine⟨by simp[h3],fun _=>?_⟩
   rw[ih.2 h3];rfl
  ·rw[if_neg h2];exact ih
 ·have h1:zch ahead=[⟨0,ahead⟩]:=by unfold zch;rw[if_neg h0]
  rw[h1,List.cons_append,List.nil_append];by_cases h:msg.length - pos<ahead
  ·have hr:zaa ⟨0,ahead⟩ msg pos=(Pc.zero,4):=by simp[zaa,h]
   rw[if_pos h,zc1 (by rw[hr];decide),hr]
   exact zdu (by decide) (by decide)
  ·have hr:zaa ⟨0,ahead⟩ msg pos=(⟨(msg.drop pos).take ahead,false,pos+ahead⟩,0):=by simp[zaa,h]
   rw[if_neg h,ha];have ih:=zjm msg behind names (pos+ahead) (by omega)
   by_cases h2:(zab (List.replicate names ⟨1,0⟩++zch behind) msg (pos+ahead)).2=0
   ·rw[zbp (by rw[hr]) (by rw[hr];exact h2),hr,if_pos (ih.1.1 h2)]
    exact zpi ih h2 rfl rfl
   ·have h3:(zan msg behind names (pos+ahead) []).2≠0:=fun e=>h2 (ih.1.2 e)
    rw[zcz (by rw[hr]) (by rw[hr];exact h2),hr,if_neg h3]
    have:=zh4 h3
    have e:zan msg behind names (pos+ahead) []=([],(zan msg behind names (pos+ahead) []).2):=Prod.ext this rfl
    rw[e];exact zdu h2 h3
theorem zvk (msg:List UInt8) (pos:Nat) (k:Int) (hp:pos≤msg.length):zhp (splitOf msg pos k) (refPieces msg pos k):=by
 unfold splitOf refPieces;by_cases dt:k=41
 ·rw[if_pos dt,if_pos dt];exact zdu (by decide) (by decide)
 rw[if_neg dt,if_neg dt];by_cases iI:k=16
 ·subst iI;rw[if_pos rfl];have hc:checksOf 16=[⟨2,0⟩]:=rfl
  rw[hc];by_cases h:zbq (msg.drop pos)=true
  ·have hr:zaa ⟨2,0⟩ msg pos=(⟨msg.drop pos,false,msg.length⟩,0):=by simp[zaa,h]
   rw[if_pos h,zbp (by rw[hr]) (by rw[hr];simp[zab]),hr]
   simp only[zab,Nat.lt_irrefl,if_false];exact zir rfl
  ·have hr:zaa ⟨2,0⟩ msg pos=(Pc.zero,4):=by simp[zaa,h]
   rw[if_neg h,zc1 (by rw[hr];decide),hr]
   exact zdu (by decide) (by decide)
 rw[if_neg iI];have key:∀(a n b:Nat),layoutOf k=(a,n,b,true)→checksOf k=zch a++(List.replicate n ⟨1,0⟩++zch b)→
  zhp (zab (checksOf k) msg pos) (if(layoutOf k).2.2.2=false then([⟨msg.drop pos,false⟩],0)else if msg.length - pos<(layoutOf k).1 then([],4)else zan msg (layoutOf k).2.2.1 (layoutOf k).2.1 (pos+(layoutOf k).1) [⟨(msg.drop pos).take (layoutOf k).1,false⟩]):=by
  intro a n b h1 h2;rw[h1,h2,if_neg (by simp)]
  exact zBh msg a n b pos hp
 by_cases h1:k=1
 ·subst h1;exact key 4 0 0 rfl rfl
 by_cases iG:k=28
 ·subst iG;exact key 16 0 0 rfl rfl
 by_cases h2:k=2
 ·subst h2;exact key 0 1 0 rfl rfl
 by_cases h5:k=5
 ·subst h5;exact key 0 1 0 rfl rfl
 by_cases dq:k=12
 ·subst dq;exact key 0 1 0 rfl rfl
 by_cases eO:k=15
 ·subst eO;exact key 2 1 0 rfl rfl
 by_cases h6:k=6
 ·subst h6;exact key 0 2 20 rfl rfl
 by_cases iH:k=33
 ·subst iH;exact key 6 1 0 rfl rfl
 have hL:layoutOf k=(0,0,0,false):=by simp[layoutOf,h1,iG,h2,h5,dq,eO,h6,iH]
 have hC:checksOf k=[⟨3,0⟩]:=by simp[checksOf,h1,iG,h2,h5,dq,eO,h6,iH,iI]
 rw[hL,hC,if_pos rfl];have hr:zaa ⟨3,0⟩ msg pos=(⟨msg.drop pos,false,msg.length⟩,0):=rfl
 rw[zbp (by rw[hr]) (by rw[hr];simp[zab]),hr]
 simp only[zab,Nat.lt_irrefl,if_false];exact zir rfl
theorem znq (k:Int) (d:List UInt8):zeu (prR ((zbz k d).getD []))=zeu (prP (partsOf k d)):=by
 have h:=zvk d 0 k (Nat.zero_le _)
 have h':=zhz d 0 k (Nat.zero_le _)
 unfold zbz partsOf zbk;by_cases h1:(splitOf d 0 k).2=0
 ·have h2:=(h'.2 h1).1
  have h3:=h.1.1 h1
  by_cases h4:textOf (splitOf d 0 k).1=d
  ·rw[if_pos ⟨h3,h2▸h4⟩,if_pos ⟨h1,h4⟩];exact(h.2 h1).symm
  ·rw[if_neg (fun e=>h4 (h2.trans e.2)),if_neg (fun e=>h4 e.2)];rfl
 ·have h3:¬(refPieces d 0 k).2=0:=fun e=>h1 (h.1.2 e)
  rw[if_neg (fun e=>h3 e.1),if_neg (fun e=>h1 e.1)]
  rfl
theorem zh0 (cmp:Bool):∀(l:List (List UInt8×Bool)) (pos:Nat) (t:Tab),zay cmp pos (zeu l) t=zay cmp pos l t
 |[],_,_=>rfl
 |(x,nm)::l,pos,t=>by
  unfold zeu;rw[List.filter_cons];by_cases hk:zsd (x,nm)=true
  ·rw[if_pos hk];simp only[zay];have ih:=fun p t=>zh0 cmp l p t
   unfold zeu at ih;simp only[ih]
  ·rw[if_neg hk];have h2:nm=false∧x=[]:=by
    unfold zsd at hk;simp at hk;exact hk
   obtain⟨rfl,rfl⟩:=h2
   have ih:=zh0 cmp l pos t
   unfold zeu at ih;rw[ih];simp[zay]
theorem zzw (pos:Nat) (kind:Int) (d:List UInt8) (t:Tab):zdo pos kind d t=zay (cmpOf kind) pos (prR ((zbz kind d).getD [])) t:=by
 rw[←zh0,znq,zh0];rfl
end Go.Proofs.YtdnpmapelmjfpaaGreatDoor
namespace Go.Proofs.YtdnpmapelmjfpaaGreatDoor
open Go.RowKit
theorem zu1 (n k:Nat) (w:World) (hk:k≤4) (hn:n<4294967296):
 Calls Tryz.prog 117 #[.int .u64 n,.int .i64 k] w fun e w'=>e=.returned (S (putB k n))∧Ext w w':=by
 go_enter Tryz.func117,Tryz.ntmps117;go_wp2_with fail
 go_loopw [0,5,6] (fun s0 s5 s6 wr=>∃i m:Nat,i≤k∧m≤n∧Hid (m=n/256^i)∧s6=.int .i64 i∧s5=S (putB i n)∧s0=.int .u64 m∧Ext w wr) (fun _ _ s6 _=>k - (intOf s6).toNat)
 case atStart=>exact⟨0,n,by omega,Z4 _,Z7 (by simp),rfl,rfl,rfl,Z5 _⟩
 case round=>
  obtain⟨i,m,hi,hm,td,rfl,rfl,rfl,hE⟩:=hrel
  obtain⟨wo,rfl⟩:∃wo:World,wo=wr:=⟨_,rfl⟩
  by_cases ab:i<k
  ·have HS:=Z7 (show putB (i+1) n=UInt8.ofNat m::putB i n by rw[td.out];exact zrd i n)
   have HD:=Z7 (show m/256=n/256^(i+1)by rw[td.out,Nat.div_div_eq_div_mul,Nat.pow_succ])
   have bi:(putB i n).length≤4:=by rw[ztr];omega
   have gD:∀V:World,(convert 110 9 (.slice (some ⟨V.heap.size,0,none⟩) 1 1)).run Tryz.prog (V.alloc (.cells #[.int .u8 ((m:Int)%256)] 5))=.ok (S [UInt8.ofNat m]) (V.alloc (.cells #[.int .u8 ((m:Int)%256)] 5)):=fun V=>zsb V V.heap.size rfl ((m:Int)%256) (UInt8.ofNat m) (by rw[UInt8.toNat_ofNat'];omega)
   generalize putB i n=T at*;have mO:(0:Int)≤(m:Int):=by omega
   have nH:(m:Int)≤4294967295:=by omega
   have lT:(i:Int)<(k:Int):=by omega
   have gD:=gD wo
   go_wp2_with fail;go_roundw
   case rel=>exact⟨i+1,m/256,by omega,by omega,HD,by go_num,by rw[HS.out],by go_num,hE.alloc _⟩
   case measure=>simp[intOf];omega
  ·obtain rfl:i=k:=by omega
   go_wp2_with fail;go_ret;exact⟨rfl,hE⟩
theorem zDs (n:Nat) (w:World) (hn:n≤65535):
 Calls Tryz.prog 176 #[.int .i64 n] w fun e w'=>e=.returned (S (two n))∧Ext w w':=by
 have qH:(0:Int)≤(n:Int):=by omega
 have j7:(n:Int)≤65535:=by omega
 have gD:(convert 110 9 (.slice (some ⟨w.heap.size,0,none⟩) 2 2)).run Tryz.prog (w.alloc (.cells #[.int .u8 ((n:Int)/256),.int .u8 ((n:Int)%256)] 5))=.ok (S (two n)) (w.alloc (.cells #[.int .u8 ((n:Int)/256),.int .u8 ((n:Int)%256)] 5)):=by
  have h:=zeb (lo:=0) 2 (l:=two n) (zaw w w.heap.size rfl 5 _ 2 1 rfl)
  have e:(two n).map U8=[.int .u8 ((n:Int)/256),.int .u8 ((n:Int)%256)]:=by
   simp only[two,List.map_cons,List.map_nil,U8];rw[UInt8.toNat_ofNat',UInt8.toNat_ofNat',show((n/256%2^8:Nat):Int)=(n:Int)/256 by omega,show((n%2^8:Nat):Int)=(n:Int)%256 by omega]
  rw[e]at h;exact h
 go_enter Tryz.func176,Tryz.ntmps176;go_wp2_with fail;go_ret;exact⟨rfl,(Z5 _).alloc _⟩
theorem zDr (b:Bool) (n:Nat) (w:World):Calls Tryz.prog 222 #[.bool b,.int .i64 n] w fun e w'=>e=.returned (.int .i64 (zae b n:Nat))∧w=w':=by
 cases b
 all_goals
  go_enter Tryz.func222,Tryz.ntmps222;go_wp2_with fail;go_ret;exact⟨rfl,rfl⟩
abbrev hdR (h:HdD):Value:=.agg #[.int .u16 h.id,.bool h.qr,.int .u8 h.op,.bool h.aa,.bool h.tc,.bool h.rd,.bool h.ra,.bool h.z,.bool h.ad,.bool h.cd,.int .u8 h.code]
theorem zg3 (b:Bool) (n:Nat):zae b n≤n:=by cases b<;>simp[zae]
theorem zym (h:HdD) (w:World) (ho:0≤h.op) (hc:0≤h.code):
 Calls Tryz.prog 175 #[hdR h] w fun e w'=>(if zdy h=true then e=.returned (.tuple #[.int .u16 (zcf h:Nat),.int .i64 0])else e=.returned (.tuple #[.int .u16 0,.int .i64 1]))∧Ext w w':=by
 obtain⟨id,qr,op,aa,tc,rd,ra,z,ad,cd,code⟩:=h
 dsimp only at ho hc;obtain⟨o,rfl⟩:=Int.eq_ofNat_of_zero_le ho
 obtain⟨c,rfl⟩:=Int.eq_ofNat_of_zero_le hc
 by_cases bB:o≤15∧c≤15
 ·have hk:zdy ⟨id,qr,o,aa,tc,rd,ra,z,ad,cd,c⟩=true:=by unfold zdy;rw[decide_eq_true_eq];dsimp only;omega
  rw[hk];obtain⟨h1,h2⟩:=bB
  have yh:¬((15:Int)<(o:Int)):=by omega
  have zZ:¬((15:Int)<(c:Int)):=by omega
  have vO:(0:Int)≤(o:Int):=by omega
  have jL:(0:Int)≤(c:Int):=by omega
  have bm:(o:Int)≤15:=by omega
  have cD:(c:Int)≤15:=by omega
  go_enter Tryz.func175,Tryz.ntmps175;go_upto_region 3 with fail
  go_quiet ((go_at_call 222;exact Calls.quiet_of_same ((zDr _ _ _).mono fun _ _ h=>⟨h.1,h.2.symm⟩)))
  go_wp2_with fail
  go_ret2
  have l0:=zg3 qr 32768
  have l1:=zg3 aa 1024
  have l2:=zg3 tc 512
  have l3:=zg3 rd 256
  have l4:=zg3 ra 128
  have l5:=zg3 z 64
  have l6:=zg3 ad 32
  have l7:=zg3 cd 16
  refine⟨?_,((Z5 _).alloc _).drewN _⟩;have hv:IntKind.u16.wrap (wrap64 (wrap64 (wrap64 (wrap64 (wrap64 (wrap64 (wrap64 (wrap64 (wrap64 (((zae qr 32768:Nat):Int)+(o:Int)*2048)+((zae aa 1024:Nat):Int))+((zae tc 512:Nat):Int))+((zae rd 256:Nat):Int))+((zae ra 128:Nat):Int))+((zae z 64:Nat):Int))+((zae ad 32:Nat):Int))+((zae cd 16:Nat):Int))+(c:Int)))=((zcf ⟨id,qr,o,aa,tc,rd,ra,z,ad,cd,c⟩:Nat):Int):=by
   unfold zcf;dsimp only[Int.toNat_natCast];rw[IntWalk.wrap64_in (((zae qr 32768:Nat):Int)+(o:Int)*2048) (by omega)]
   rw[IntWalk.wrap64_in (((zae qr 32768:Nat):Int)+(o:Int)*2048+((zae aa 1024:Nat):Int)) (by omega)]
   rw[IntWalk.wrap64_in (((zae qr 32768:Nat):Int)+(o:Int)*2048+((zae aa 1024:Nat):Int)+((zae tc 512:Nat):Int)) (by omega)]
   rw[IntWalk.wrap64_in (((zae qr 32768:Nat):Int)+(o:Int)*2048+((zae aa 1024:Nat):Int)+((zae tc 512:Nat):Int)+((zae rd 256:Nat):Int)) (by omega)]
   rw[IntWalk.wrap64_in (((zae qr 32768:Nat):Int)+(o:Int)*2048+((zae aa 1024:Nat):Int)+((zae tc 512:Nat):Int)+((zae rd 256:Nat):Int)+((zae ra 128:Nat):Int)) (by omega)]
   rw[IntWalk.wrap64_in (((zae qr 32768:Nat):Int)+(o:Int)*2048+((zae aa 1024:Nat):Int)+((zae tc 512:Nat):Int)+((zae rd 256:Nat):Int)+((zae ra 128:Nat):Int)+((zae z 64:Nat):Int)) (by omega)]
   rw[IntWalk.wrap64_in (((zae qr 32768:Nat):Int)+(o:Int)*2048+((zae aa 1024:Nat):Int)+((zae tc 512:Nat):Int)+((zae rd 256:Nat):Int)+((zae ra 128:Nat):Int)+((zae z 64:Nat):Int)+((zae ad 32:Nat):Int)) (by omega)]
   rw[IntWalk.wrap64_in (((zae qr 32768:Nat):Int)+(o:Int)*2048+((zae aa 1024:Nat):Int)+((zae tc 512:Nat):Int)+((zae rd 256:Nat):Int)+((zae ra 128:Nat):Int)+((zae z 64:Nat):Int)+((zae ad 32:Nat):Int)+((zae cd 16:Nat):Int)) (by omega)]
   rw[IntWalk.wrap64_in (((zae qr 32768:Nat):Int)+(o:Int)*2048+((zae aa 1024:Nat):Int)+((zae tc 512:Nat):Int)+((zae rd 256:Nat):Int)+((zae ra 128:Nat):Int)+((zae z 64:Nat):Int)+((zae ad 32:Nat):Int)+((zae cd 16:Nat):Int)+(c:Int)) (by omega)]
   rw[IntWalk.u16_in _ (by omega)]
   omega
  rw[hv];rfl
 ·have hk:zdy ⟨id,qr,o,aa,tc,rd,ra,z,ad,cd,c⟩=false:=by unfold zdy;rw[decide_eq_false_iff_not];dsimp only;omega
  rw[hk];have hx:(15:Int)<(o:Int)∨(¬(15:Int)<(o:Int)∧(15:Int)<(c:Int)):=by omega
  clear bB;rcases hx with h1|⟨h1,h2⟩
  all_goals
   go_enter Tryz.func175,Tryz.ntmps175;go_wp2_with fail
   go_ret2
   exact⟨rfl,(Z5 _).alloc _⟩
theorem zBv (cs:List Nat) (i:Nat) (h:i<cs.length):(cs.take (i+1)).flatMap two=(cs.take i).flatMap two++two cs[i]:=by
 rw[zat cs i h,List.flatMap_append];simp
theorem zt2 (cs:List Nat):(cs.flatMap two).length=2*cs.length:=by
 induction cs with
 |nil=>rfl
 |cons c r ih=>simp only[List.flatMap_cons,Z6,zah,ih,List.length_cons];omega
theorem zpd (h:HdD) (c0 c1 c2 c3:Nat) (w:World) (bB:zdy h=true) (hi:0≤h.id∧h.id≤65535) (ho:0≤h.op) (hc:0≤h.code) (h0:c0≤65535) (h1:c1≤65535) (h2:c2≤65535) (h3:c3≤65535):
 Calls Tryz.prog 115 #[hdR h,.agg #[.int .i64 c0,.int .i64 c1,.int .i64 c2,.int .i64 c3]] w fun e w'=>e=.returned (.tuple #[S (two h.id.toNat++two (zcf h)++([c0,c1,c2,c3].flatMap two)),.int .i64 0])∧Ext w w':=by
 have HF:=Z7 (fun V=>zym h V ho hc)
 rw[bB]at HF;obtain⟨cs,eK⟩:∃cs,cs=[c0,c1,c2,c3]:=⟨_,rfl⟩
 rw[←eK];have Dx:=Z7 (show cs.length=4 by rw[eK];rfl)
 have yB:=Z7 eK
 clear eK;have fw:zcf h≤65535:=by have:=zt1 ho hc bB;omega
 obtain⟨fl,fV⟩:∃fl,fl=zcf h:=⟨_,rfl⟩
 rw[←fV]at HF fw ⊢;clear fV;obtain⟨idn,hid⟩:=Int.eq_ofNat_of_zero_le hi.1
 have AS:idn≤65535:=by omega
 obtain⟨id,qr,op,aa,tc,rd,ra,z,ad,cd,code⟩:=h
 dsimp only at hid ho hc hi ⊢;subst hid;obtain⟨W0,kA⟩:∃W0,W0=(w.alloc (.cells #[.int .u16 idn,.bool qr,.int .u8 op,.bool aa,.bool tc,.bool rd,.bool ra,.bool z,.bool ad,.bool cd,.int .u8 code] 30)).alloc (.cells #[.int .i64 c0,.int .i64 c1,.int .i64 c2,.int .i64 c3] 129):=⟨_,rfl⟩
 have aP:Ext w W0:=by rw[kA];exact((Z5 _).alloc _).alloc _
 have r1:W0.heap[w.heap.size+1]? =some (.cells #[.int .i64 c0,.int .i64 c1,.int .i64 c2,.int .i64 c3] 129):=by rw[kA];exact heap_alloc2_new w _ _
 have r0:W0.heap[w.heap.size]? =some (.cells #[.int .u16 idn,.bool qr,.int .u8 op,.bool aa,.bool tc,.bool rd,.bool ra,.bool z,.bool ad,.bool cd,.int .u8 code] 30):=by rw[kA];exact heap_alloc2_old w _ _
 go_enter Tryz.func115,Tryz.ntmps115;go_upto_region 1 with fail
 have aW:(w.alloc (.cells #[.int .u16 idn,.bool qr,.int .u8 op,.bool aa,.bool tc,.bool rd,.bool ra,.bool z,.bool ad,.bool cd,.int .u8 code] 30)).alloc (.cells #[.int .i64 c0,.int .i64 c1,.int .i64 c2,.int .i64 c3] 129)=W0:=kA.symm
 rw[aW];clear aW kA;go_wp2_with(first|(refine za9 (by rfl) 30 (.tmp 2) rfl w.heap.size 0 rfl [.int .u16 idn,.bool qr,.int .u8 op,.bool aa,.bool tc,.bool rd,.bool ra,.bool z,.bool ad,.bool cd,.int .u8 code] (zba r0) _ Tryz.underlying30 rfl (by kernel_rfl) ?_)|fail)
 refine(HF.out _).mono ?_;rintro e w1 ⟨he,ae⟩;simp only[if_true]at he;subst he;have r01:=Z8 ae r0
 have r11:=Z8 ae r1
 have x0:w1.cell? ⟨w.heap.size,0,none⟩=some (.int .u16 idn):=za0 r01 rfl
 have Gf:(0:Int)≤(idn:Int):=by omega
 have Gg:(idn:Int)≤65535:=by omega
 have lb:(fl:Int)≤65535:=by omega
 have y5:(0:Int)≤(fl:Int):=by omega
 have co:Ext w w1:=aP.trans ae
 have HC:=Z7 (fun(i:Nat) (hi:i<4)=>(show ∃c:Nat,c≤65535∧cs[i]? =some c∧w1.cell? ⟨w.heap.size+1,i,none⟩=some (.int .i64 c)from match i,hi with
  |0,_=>⟨c0,h0,by rw[yB.out];rfl,za0 r11 rfl⟩
  |1,_=>⟨c1,h1,by rw[yB.out];rfl,za0 r11 rfl⟩
  |2,_=>⟨c2,h2,by rw[yB.out];rfl,za0 r11 rfl⟩
  |3,_=>⟨c3,h3,by rw[yB.out];rfl,za0 r11 rfl⟩
  |k+4,h=>absurd h (by omega)))
 have aC:w.heap.size+1<w1.heap.size:=(Z9 r11)
 have HT:=Z7 (fun n V (hn:n≤65535)=>zDs n V hn)
 clear r01 r11 r0 r1 HF;go_wp2_with fail;refine(HT.out idn _ AS).mono ?_;rintro e w2 ⟨rfl,ah⟩;go_wp2_with fail;refine(HT.out fl _ fw).mono ?_;rintro e w3 ⟨rfl,ao⟩;have ie:Ext w1 w3:=ah.trans ao
 go_wp2_with fail;clear x0
 go_loopw [4,5,8,9] (fun s4 s5 s8 s9 wr=>∃i:Nat,i≤4∧s4=.string ⟨#[]⟩∧s5=.int .i64 0∧s9=.int .i64 i∧s8=S (two idn++two fl++(cs.take i).flatMap two)∧Ext w1 wr) (fun _ _ _ s9 _=>4 - (intOf s9).toNat)
 case atStart=>exact⟨0,by omega,rfl,rfl,rfl,by simp,ie⟩
 case round=>
  obtain⟨i,JX,rfl,rfl,rfl,rfl,hE⟩:=hrel
  obtain⟨wo,rfl⟩:∃wo:World,wo=wr:=⟨_,rfl⟩
  by_cases ab:i<4
  ·obtain⟨c,AT,yC,lH⟩:=HC.out i ab
   have lH:=(hE.cell (p:=⟨w.heap.size+1,i,none⟩) aC).trans lH
   have HS:=Z7 (show(cs.take (i+1)).flatMap two=(cs.take i).flatMap two++two c by
    rw[zBv cs i (by rw[Dx.out];exact ab),(List.getElem?_eq_some_iff.1 yC).2])
   have JY:=Z7 yC
   clear yC;have cH:((cs.take i).flatMap two).length≤8:=by rw[zt2,List.length_take];omega
   generalize (cs.take i).flatMap two=X at*;have AU:(i:Int)<4:=by omega
   have aH:(0:Int)≤(i:Int):=by omega
   have Gh:(0:Int)≤(c:Int):=by omega
   have Gi:(c:Int)≤65535:=by omega
   have db:¬((c:Int)<0):=by omega
   have iU:¬((65535:Int)<(c:Int)):=by omega
   have bT:¬9223372036854775807<(two idn).length+((two fl).length+X.length)+(two c).length:=by rw[zah,zah,zah];omega
   go_wp2_with fail;refine(HT.out c _ AT).mono ?_;rintro e w4 ⟨rfl,aL⟩;go_wp2_with fail;go_roundw
   case rel=>exact⟨i+1,by omega,rfl,rfl,by go_num,by rw[HS.out];simp[two],hE.trans aL⟩
   case measure=>simp[intOf];omega
  ·obtain rfl:i=4:=by omega
   have e1:cs.take 4=cs:=List.take_of_length_le (by rw[Dx.out];exact Z4 _)
   rw[e1];clear e1;obtain⟨X,hX⟩:∃X,X=cs.flatMap two:=⟨_,rfl⟩
   rw[←hX];have HX:=Z7 hX
   clear hX;go_wp2_with fail
   go_ret2
   exact⟨by rw[←HX.out];rfl,co.trans hE⟩
def zmi (e:List UInt8×Nat):List Value:=[S e.1,.int .i64 (e.2:Nat)]
def TabR (w:World) (lo tp:Nat) (T:Tab):Prop:=lo≤tp∧zkc T∧∃A c,w.heap[tp]? =some (.cells #[.slice A T.length c] 206)∧T.length≤c∧c≤maxLen∧Rd w lo 2 A T.length (T.flatMap zmi)
theorem TabR.ext {w w':World} {lo tp:Nat} {T:Tab} (h:TabR w lo tp T) (hE:Ext w w'):TabR w' lo tp T:=by
 obtain⟨h1,h2,A,c,h3,h4,h5,h6⟩:=h
 exact⟨h1,h2,A,c,Z8 hE h3,h4,h5,h6.ext hE⟩
theorem TabR.lt {w:World} {lo tp:Nat} {T:Tab} (h:TabR w lo tp T):tp<w.heap.size:=by
 obtain⟨h1,h2,A,c,h3,_⟩:=h
 exact(Z9 h3)
theorem zBu {w:World} {b off:Nat} {T:Tab} (hc:∀j u,(T.flatMap zmi)[j]? =some u→w.cell? ⟨b,off+j,none⟩=some u) (k:Nat) (e:List UInt8×Nat) (hk:T[k]? =some e):
 w.cell? ⟨b,off+k*2,none⟩=some (S e.1)∧w.cell? ⟨b,off+k*2+1,none⟩=some (.int .i64 (e.2:Nat)):=by
 have h:=zb7 zmi 2 (fun _=>rfl) T k
 refine⟨?_,?_⟩
 ·have:=hc (k*2+0) (S e.1) (by rw[h 0 e hk (by omega)];rfl)
  exact this
 ·have:=hc (k*2+1) (.int .i64 (e.2:Nat)) (by rw[h 1 e hk (by omega)];rfl)
  exact this
theorem zFo (lo tp:Nat) (T:Tab) (n:List UInt8) (w:World) (h:TabR w lo tp T):
 Calls Tryz.prog 177 #[.pointer (some ⟨tp,0,none⟩),S n] w fun e w'=>e=.returned (.tuple #[.int .i64 ((zb6 T n).getD 0:Nat),.bool (zb6 T n).isSome])∧w=w':=by
 obtain⟨R,hR⟩:∃R,R=zb6 T n:=⟨_,rfl⟩
 rw[←hR];have HR:=Z7 hR
 clear hR;obtain⟨_,_,A,c,h3,h4,h5,h6⟩:=h
 have x0:w.cell? ⟨tp,0,none⟩=some (.slice A T.length c):=za0 h3 rfl
 unfold maxLen at h5;go_enter Tryz.func177,Tryz.ntmps177;go_wp2_with fail
 go_loop [4,5,6] (fun s4 s5 s6=>∃k:Nat,k≤T.length∧s4=.int .i64 0∧s5=.bool false∧s6=.int .i64 k∧Hid (R=zb6 (T.drop k) n)) (fun _ _ s6=>T.length - (intOf s6).toNat)
 case atStart=>exact⟨0,Nat.zero_le _,rfl,rfl,rfl,by simpa using HR⟩
 case round=>
  obtain⟨k,hk,rfl,rfl,rfl,eC⟩:=hrel
  by_cases ab:k<T.length
  ·obtain⟨b,off,rfl,_,az,hc⟩:=h6.2 (by omega)
   obtain⟨y0,y1⟩:=zBu hc k T[k] (Z3 ab)
   have HS:=Z7 (show T.drop k=T[k]::T.drop (k+1)from List.drop_eq_getElem_cons ab)
   generalize T[k]=t at*;obtain⟨m,p⟩:=t
   dsimp only at y0 y1;have cz:(k:Int)<(T.length:Int):=by omega
   have cW:(0:Int)≤(k:Int):=by omega
   clear hc;by_cases hm:m=n
   ·have yD:=Z7 (show R=some p by rw[eC.out,HS.out,hm];unfold zb6;rw[List.find?_cons_of_pos (by simp)];rfl)
    subst hm;go_wp2_with fail
    go_ret2
    exact⟨by rw[yD.out];rfl,rfl⟩
   ·have JZ:(m==n)=false:=by rw[beq_eq_false_iff_ne];exact hm
    have AV:=Z7 (show R=zb6 (T.drop (k+1)) n by rw[eC.out,HS.out];unfold zb6;rw[List.find?_cons_of_neg (by simpa using hm)])
    go_wp2_with fail;go_round
    case rel=>exact⟨k+1,by omega,rfl,rfl,by go_num,AV⟩
    case measure=>simp[intOf];omega
  ·obtain rfl:k=T.length:=by omega
   have AV:=Z7 (show R=none by rw[eC.out,List.drop_length];rfl)
   go_wp2_with fail
   go_ret2
   exact⟨by rw[AV.out];rfl,rfl⟩
structure RpInv (w:World) (tp lo:Nat) (cmp known:Bool) (R:List UInt8×Tab) (X m:List UInt8) (T1:Tab) (wr:World):Prop where
 ps:(zav m).isSome=true
 ml:m.length≤255
 xl:X.length+m.length≤1048832
 tab:TabR wr lo tp T1
 tl:T1.length≤X.length
 eq:R=(X++(putN cmp known X.length m T1).1,(putN cmp known X.length m T1).2)
 blw:Below lo w wr
 kc:KeptC tp w wr
def zkb (lo tp:Nat) (R:List UInt8×Tab) (w:World) (e:Ending) (w':World):Prop:=e=.returned (.tuple #[S R.1,.int .i64 0])∧TabR w' lo tp R.2∧Below lo w w'∧KeptC tp w w'
theorem zCx:(Tryz.prog.info? 281).map (fun i=>(i.zero,i.size,i.bytes))=some (some (.agg #[.string ⟨#[]⟩,.int .i64 0]),2,24):=by kernel_rfl
theorem zwd (T:Tab):∀u∈T.flatMap zmi,u.oneCell'=true:=by
 intro u hu;obtain⟨e,_,hu⟩:=List.mem_flatMap.1 hu
 simp only[zmi,List.mem_cons,List.not_mem_nil,or_false]at hu;rcases hu with rfl|rfl<;>rfl
theorem zA6 {w:World} {g:Nat} {u:Value} {t:TypeId} {fr:Nat×Nat} (h:w.heap[g]? =some (.cells #[u] t fr)) (v:Value):(w.setCell ⟨g,0,none⟩ v).heap[g]? =some (.cells #[v] t fr):=by
 simp[World.setCell,Array.getElem?_modify,h]
theorem zmy {w wo W:World} {tp lo:Nat} {cmp known:Bool} {R:List UInt8×Tab} {X m:List UInt8} {T1 T2:Tab} {c:UInt8} (hI:RpInv w tp lo cmp known R X m T1 wo) (hm:m=c::m.drop 1) (h0:c≠0)
 (bT:¬((zb6 T1 m).isSome=true∧cmp=true)) (dz:c.toNat<m.length - 1) (hp:(zav (List.drop c.toNat (List.drop 1 m))).isSome=true) (jd:zbs known m X.length T1=T2) (ki:TabR W lo tp T2) (hB:Below lo wo W) (hK:KeptC tp wo W):
 RpInv w tp lo cmp known R (X++m.take (1+c.toNat)) (List.take (m.length - (1+c.toNat)) (List.drop (1+c.toNat) m)) T2 W:=by
 have hd:List.take (m.length - (1+c.toNat)) (List.drop (1+c.toNat) m)=(m.drop 1).drop c.toNat:=by
  rw[List.take_of_length_le (by rw[List.length_drop];exact Z4 _),List.drop_drop]
 have ht:m.take (1+c.toNat)=c::(m.drop 1).take c.toNat:=by
  conv=>lhs;rw[hm]
  rw[Nat.add_comm,List.take_succ_cons]
 have cv:(m.take (1+c.toNat)).length=1+c.toNat:=by rw[List.length_take];omega
 have h1:=hI.xl
 have h2:=hI.ml
 have h3:=hI.tl
 have h4:=zpm known m X.length T1
 rw[hd];refine⟨hp,by simp only[List.length_drop];omega,by simp only[Z6,List.length_drop,cv];omega,ki,by rw[←jd,Z6,cv];omega,?_,hI.blw.trans hB,hI.kc.trans hK⟩
 rw[hI.eq]
 conv=>lhs;rw[hm]
 rw[zrf h0 (by rw[←hm];exact bT),←hm,jd,Z6,cv,ht]
 simp only[List.append_assoc,List.cons_append]
theorem zl1 (lo tp:Nat) (T:Tab) (b n:List UInt8) (cmp known:Bool) (w:World) (ht:TabR w lo tp T) (hb:b.length≤1048576) (hT:T.length≤b.length) (hn:may n=true):
 Calls Tryz.prog 116 #[.pointer (some ⟨tp,0,none⟩),S b,S n,.bool cmp,.bool known] w (zkb lo tp (b++(putN cmp known b.length n T).1,(putN cmp known b.length n T).2) w):=by
 obtain⟨i0,aH,aF,aC,ax⟩:=info_parts zCx
 have pr:=zek hn
 have je:=Z7 (fun W=>zc3 n W (by omega))
 simp only[hn]at je;obtain⟨R,hR⟩:∃R,R=(b++(putN cmp known b.length n T).1,(putN cmp known b.length n T).2):=⟨_,rfl⟩
 rw[←hR];have HI:∀w0,Ext w w0→RpInv w tp lo cmp known R b n T w0:=fun w0 hE=>⟨zhe hn,pr,by omega,ht.ext hE,hT,hR,hE.mono (by have:=ht.1;have:=ht.lt;omega),KeptC.ext hE⟩
 clear hR;go_enter Tryz.func116,Tryz.ntmps116;go_wp2_with fail;refine(je.out _).mono ?_;rintro e w0 ⟨rfl,aD⟩;go_wp2_with fail
 go_loopw [1,2,10,11,12,13,14] (fun s1 s2 s10 s11 _ _ _ wr=>∃(X m:List UInt8) (T1:Tab),s1=S X∧s2=S m∧s10=.string ⟨#[]⟩∧s11=.int .i64 0∧RpInv w tp lo cmp known R X m T1 wr) (fun _ s2 _ _ _ _ _ _=>zej s2)
 case atStart=>exact⟨b,n,T,rfl,rfl,rfl,rfl,HI _ aD⟩
 case round=>
  obtain⟨X,m,T1,rfl,rfl,rfl,rfl,hI⟩:=hrel
  obtain⟨wo,rfl⟩:∃wo:World,wo=wr:=⟨_,rfl⟩
  have eC:=Z7 hI.eq
  have bA:=hI.ps
  have o7:=hI.ml
  have gF:=hI.xl
  have fR:=hI.tab
  have mO:0<m.length:=by
   rcases Nat.eq_zero_or_pos m.length with h|h
   ·rw[List.length_eq_zero_iff.1 h,zbx]at bA;cases bA
   ·exact h
  obtain⟨c,Hc,cD,ew,ei⟩:=zbu m 0 mO
  have Hm:=Z7 (show m=c::m.drop 1 by rw[←Hc.out];exact List.drop_eq_getElem_cons mO)
  have lU:=bA
  rw[Hm.out]at lU;by_cases h0:c=0
  ·have nK:=zwo (by rw[←h0];exact lU)
   have nH:m=[0]:=by rw[Hm.out,nK,h0]
   clear Hm Hc cD ew ei bA lU;subst nH;have qM:=Z7 (show R=(X++[0],T1)by rw[eC.out,zm5])
   go_wp2_with fail
   go_ret2
   rw[qM.out];exact⟨rfl,fR,hI.blw,hI.kc⟩
  ·have C8:c.toNat≠0:=fun e=>h0 (UInt8.toNat_inj.1 (by simpa using e))
   obtain⟨Gj,dz,de⟩:=zqc h0 lU
   clear bA lU;rw[List.length_drop]at dz;have Gk:(m==[0])=false:=by
    rw[beq_eq_false_iff_ne];intro e;have h:=Hm.out
    rw[e]at h;injection h with h _
    exact h0 h.symm
   have HA:=Z7 (zFo lo tp T1 m wo fR)
   obtain⟨q,hq⟩:∃q,q=zb6 T1 m:=⟨_,rfl⟩
   rw[←hq]at HA;have uM:q.getD 0≤16383:=by rw[hq];exact zug fR.2.1
   have Hq:=Z7 hq
   clear hq;generalize hqs:q.isSome=qs at*;generalize pu:q.getD 0=qv at*;have iQ:=Z7 hqs
   have zF:=Z7 pu
   clear hqs pu;go_upto_region 4 with fail
   go_wp2_with fail;refine HA.out.mono ?_;rintro e w' ⟨rfl,rfl⟩;go_upto_region 5 with fail
   by_cases hc:qs=true∧cmp=true
   ·obtain⟨rfl,rfl⟩:=hc
    have qM:=Z7 (show R=(X++zgs qv,T1)by
     have h1:=Hq.out;have h2:=iQ.out;have h3:=zF.out
     rcases q with _|q'
     ·cases h2
     ·rw[eC.out,Hm.out,ztt h0 (k:=q') (by rw[←Hm.out,←h1]) rfl,show qv=q' from h3.symm])
    have th:(qv:Int)≤16383:=by omega
    have Ff:(0:Int)≤(qv:Int):=by omega
    have gD:(convert 110 9 (.slice (some ⟨wo.heap.size,0,none⟩) 2 2)).run Tryz.prog (wo.alloc (.cells #[.int .u8 (192+(qv:Int)/256),.int .u8 ((qv:Int)%256)] 5))=.ok (S (zgs qv)) (wo.alloc (.cells #[.int .u8 (192+(qv:Int)/256),.int .u8 ((qv:Int)%256)] 5)):=by
     have h:=zeb (lo:=0) 2 (l:=zgs qv) (zaw wo wo.heap.size rfl 5 _ 2 1 rfl)
     have e:(zgs qv).map U8=[.int .u8 (192+(qv:Int)/256),.int .u8 ((qv:Int)%256)]:=by
      simp only[zgs,List.map_cons,List.map_nil,U8];rw[UInt8.toNat_ofNat',UInt8.toNat_ofNat',show(((192+qv/256)%2^8:Nat):Int)=192+(qv:Int)/256 by omega,show((qv%2^8:Nat):Int)=(qv:Int)%256 by omega]
     rw[e]at h;exact h
    have Dy:¬9223372036854775807<X.length+(zgs qv).length:=by rw[zo8];omega
    go_wp2_with fail
    go_ret2
    rw[qM.out];exact⟨rfl,fR.ext ((Z5 _).alloc _),hI.blw.trans (((Z5 wo).alloc _).mono (Z2 (by have:=ht.1;have:=ht.lt;omega) hI.kc.1)),hI.kc.trans (KeptC.ext ((Z5 _).alloc _))⟩
   ·have bT:qs=false→zb6 T1 m=none:=fun e=>by
     rw[←Hq.out];have h2:=iQ.out
     rw[e]at h2;rcases q with _|q
     ·rfl
     ·cases h2
    have ak:lo≤w.heap.size:=by have:=ht.1;have:=ht.lt;omega
    obtain⟨lab,bX⟩:∃lab,lab=m.take (1+c.toNat):=⟨_,rfl⟩
    have dE:=Z7 (show lab=c::(m.drop 1).take c.toNat by rw[bX,Hm.out,Nat.add_comm,List.take_succ_cons];rfl)
    have fZ:lab.length=1+c.toNat:=by rw[bX,List.length_take];omega
    have Dy:¬9223372036854775807<X.length+lab.length:=by omega
    have cN:=Z7 bX
    have ny:=Z7 fZ
    clear bX fZ;by_cases dW:known=true∧qs=false∧X.length≤16383
    ·have kg:=Z7 (show zbs known m X.length T1=T1++[(m,X.length)]by
      unfold zbs;rw[if_pos ⟨dW.1,bT dW.2.1,dW.2.2⟩])
     obtain⟨rfl,rfl,uN⟩:=dW
     have uO:(X.length:Int)≤16383:=by omega
     go_upto_region 8 with fail
     obtain⟨eT,AW,A1,k1,t1,t2,t3,t4⟩:=fR
     have cv:=hI.tl
     have jn:tp<wo.heap.size:=(Z9 t1)
     have x0:wo.cell? ⟨tp,0,none⟩=some (.slice A1 T1.length k1):=za0 t1 rfl
     have f0:wo.frozen? ⟨tp,0,none⟩=false:=by simp[World.frozen?,t1]
     have vO:Own (wo.alloc (.cells #[] 281)) wo.heap.size 281 2 (some ⟨wo.heap.size,0,none⟩) 0 0 []:=⟨rfl,.inr ⟨wo.heap.size,0,_,rfl,Z4 _,heap_alloc_new _ _,Z4 _,Nat.zero_le _,rfl,rfl⟩⟩
     go_wp2_with(first
      |(at_builtin
        refine zad _ rfl (.tmp 52) (.tmp 56) _ rfl wo.heap.size 281 i0 _ 2 24 Tryz.underlying204 aH aF aC ax rfl (by omega) (some ⟨wo.heap.size,0,none⟩) 0 0 [] rfl vO lo A1 T1.length k1 (T1.flatMap zmi) rfl (t4.ext ((Z5 _).alloc _)) (zwd _) (by omega) (by omega) (by simp) ?_
        intro A2 c2 w2 aI ci cj Gl;rw[Nat.zero_add,List.nil_append]at aI;rw[Nat.zero_add];have ah:Ext wo w2:=((Z5 wo).alloc _).then cj (Z4 _)
        have y0:=(ah.cell (p:=⟨tp,0,none⟩) jn).trans x0
        have g0:=(ah.frozen (p:=⟨tp,0,none⟩) jn).trans f0)
      |(at_builtin
        refine zad _ rfl (.tmp 57) (.tmp 62) _ rfl wo.heap.size 281 i0 _ 2 24 Tryz.underlying204 aH aF aC ax rfl (by omega) A2 T1.length c2 (T1.flatMap zmi) rfl (aI.ext ((Z5 _).alloc _)) 0 _ 1 1 ([(m,X.length)].flatMap zmi) rfl (zaw w2 w2.heap.size rfl _ _ 1 2 rfl) (zwd _) (by omega) (by omega) (by have:=ah.size;simp;omega) ?_
        intro A3 c3 w3 cR dQ j6 Gm;have ao:Ext wo w3:=(ah.alloc _).then j6 (Z4 _)
        have z0:=(ao.cell (p:=⟨tp,0,none⟩) jn).trans x0
        have j0:=(ao.frozen (p:=⟨tp,0,none⟩) jn).trans f0)
      |fail)
     go_roundw
     case rel=>
      refine⟨_,_,T1++[(m,X.length)],rfl,rfl,rfl,rfl,zmy hI Hm.out h0 (fun h=>hc ⟨by first|rfl|(rw[←iQ.out,Hq.out];exact h.1),h.2⟩) dz de kg.out ?_ ((ao.mono (Z2 ak hI.kc.1)).setCell eT _) ((KeptC.ext ao).trans (KeptC.set _ _ _))⟩
      refine⟨eT,?_,A3,c3,?_,?_⟩
      ·have h:=zru (known:=true) (n:=m) (pos:=X.length) AW o7
       rw[kg.out]at h;exact h
      ·rw[Z6];exact zA6 ((ao.block _ jn).trans t1) _
      ·rw[Z6];have h5:=cR.cap
       refine⟨h5.1,h5.2,?_⟩;have h6:=(cR.set_other (p:=⟨tp,0,none⟩) jn (.slice A3 (T1.length+1) c3)).rd
       rw[List.flatMap_append];exact h6.lower (by omega)
     case measure=>
      simp only[zej,zcy];simp;omega
    ·have kg:=Z7 (show zbs known m X.length T1=T1 by
      unfold zbs;rw[if_neg fun h=>dW ⟨h.1,?_,h.2.2⟩]
      have h1:=Hq.out;have h2:=iQ.out
      rw[←h1]at h;rw[←h2,h.2.1];rfl)
     rcases qs with _|_
     ·rcases known with _|_
      ·go_wp2_with fail;go_roundw
       case rel=>exact⟨_,_,T1,rfl,rfl,rfl,rfl,zmy hI Hm.out h0 (fun h=>hc ⟨by first|rfl|(rw[←iQ.out,Hq.out];exact h.1),h.2⟩) dz de kg.out fR (Below.refl _ _) (KeptC.refl _ _)⟩
       case measure=>(simp only[zej,zcy]);simp;omega
      ·have uO:¬((X.length:Int)≤16383):=fun h=>dW ⟨rfl,rfl,by omega⟩
       go_wp2_with fail;go_roundw
       case rel=>exact⟨_,_,T1,rfl,rfl,rfl,rfl,zmy hI Hm.out h0 (fun h=>hc ⟨by first|rfl|(rw[←iQ.out,Hq.out];exact h.1),h.2⟩) dz de kg.out fR (Below.refl _ _) (KeptC.refl _ _)⟩
       case measure=>(simp only[zej,zcy]);simp;omega
     ·rcases cmp with _|_
      ·rcases known with _|_
       all_goals
        go_wp2_with fail;go_roundw
        case rel=>exact⟨_,_,T1,rfl,rfl,rfl,rfl,zmy hI Hm.out h0 (fun h=>hc ⟨by first|rfl|(rw[←iQ.out,Hq.out];exact h.1),h.2⟩) dz de kg.out fR (Below.refl _ _) (KeptC.refl _ _)⟩
        case measure=>(simp only[zej,zcy]);simp;omega
      ·exact absurd ⟨rfl,rfl⟩ hc
theorem zpe (kind:Int) (w:World):Calls Tryz.prog 223 #[.int .u16 kind] w fun e w'=>e=.returned (.bool (cmpOf kind))∧w=w':=by
 by_cases h2:kind=2
 ·subst h2;go_enter Tryz.func223,Tryz.ntmps223;go_wp2_with fail;go_ret;exact⟨rfl,rfl⟩
 by_cases h5:kind=5
 ·subst h5;go_enter Tryz.func223,Tryz.ntmps223;go_wp2_with fail;go_ret;exact⟨rfl,rfl⟩
 by_cases h6:kind=6
 ·subst h6;go_enter Tryz.func223,Tryz.ntmps223;go_wp2_with fail;go_ret;exact⟨rfl,rfl⟩
 by_cases dq:kind=12
 ·subst dq;go_enter Tryz.func223,Tryz.ntmps223;go_wp2_with fail;go_ret;exact⟨rfl,rfl⟩
 have f2:(kind==2)=false:=by rw[beq_eq_false_iff_ne];exact h2
 have f5:(kind==5)=false:=by rw[beq_eq_false_iff_ne];exact h5
 have f6:(kind==6)=false:=by rw[beq_eq_false_iff_ne];exact h6
 have f12:(kind==12)=false:=by rw[beq_eq_false_iff_ne];exact dq
 by_cases eO:kind=15
 ·subst eO;go_enter Tryz.func223,Tryz.ntmps223;go_wp2_with fail;go_ret;exact⟨rfl,rfl⟩
 have f15:(kind==15)=false:=by rw[beq_eq_false_iff_ne];exact eO
 have hc:cmpOf kind=false:=by unfold cmpOf;rw[decide_eq_false_iff_not];omega
 rw[hc];go_enter Tryz.func223,Tryz.ntmps223;go_wp2_with fail;go_ret;exact⟨rfl,rfl⟩
theorem zFj {kind:Int} {d:List UInt8} (h:rmay kind d=true) {p:Pr} (hp:p∈(zbz kind d).getD []) (hn:p.nm=true):may p.s=true:=by
 have h1:(p.s,p.nm)∈zeu (prR ((zbz kind d).getD [])):=by
  unfold zeu prR;rw[List.mem_filter];exact⟨List.mem_map.2 ⟨p,hp,rfl⟩,by unfold zsd;simp[hn]⟩
 rw[znq]at h1;unfold zeu prP at h1;rw[List.mem_filter]at h1;obtain⟨q,hq,e⟩:=List.mem_map.1 h1.1
 injection e with e1 e2
 rw[←e1];exact zrb h hq (by rw[e2];exact hn)
structure RdwI (w:World) (tp lo:Nat) (cmp:Bool) (ps:List Pr) (R:List UInt8×Tab) (M k:Nat) (X:List UInt8) (T1:Tab) (wr:World):Prop where
 xl:X.length≤200000+k*M
 tab:TabR wr lo tp T1
 tl:T1.length≤X.length
 eq:R=(X++(zay cmp X.length (prR (ps.drop k)) T1).1,(zay cmp X.length (prR (ps.drop k)) T1).2)
 blw:Below lo w wr
 kc:KeptC tp w wr
theorem zFq {w wo W:World} {tp lo M k:Nat} {cmp:Bool} {ps:List Pr} {R:List UInt8×Tab} {X:List UInt8} {T1:Tab} {p:Pr} (hI:RdwI w tp lo cmp ps R M k X T1 wo) (hp:ps.drop k=p::ps.drop (k+1)) (hn:p.nm=true) (hm:may p.s=true) (hM:255≤M)
 (ki:TabR W lo tp (putN cmp cmp X.length p.s T1).2) (hB:Below lo wo W) (hK:KeptC tp wo W):RdwI w tp lo cmp ps R M (k+1) (X++(putN cmp cmp X.length p.s T1).1) (putN cmp cmp X.length p.s T1).2 W:=by
 have h1:=hI.xl
 have h2:=hI.tl
 have h3:=zgt cmp cmp X.length T1 hm
 have h4:=zio cmp cmp X.length p.s T1
 refine⟨by rw[Z6,Nat.add_mul];omega,ki,by rw[Z6];omega,?_,hI.blw.trans hB,hI.kc.trans hK⟩
 rw[hI.eq,hp];unfold prR;rw[List.map_cons];simp only[zay];rw[if_pos hn];simp only[Z6,List.append_assoc]
theorem zFr {w wo W:World} {tp lo M k:Nat} {cmp:Bool} {ps:List Pr} {R:List UInt8×Tab} {X:List UInt8} {T1:Tab} {p:Pr} (hI:RdwI w tp lo cmp ps R M k X T1 wo) (hp:ps.drop k=p::ps.drop (k+1)) (hn:p.nm=false) (hM:p.s.length≤M)
 (hE:Ext wo W) (ak:lo≤wo.heap.size):RdwI w tp lo cmp ps R M (k+1) (X++p.s) T1 W:=by
 have h1:=hI.xl
 have h2:=hI.tl
 refine⟨by rw[Z6,Nat.add_mul];omega,hI.tab.ext hE,by rw[Z6];omega,?_,hI.blw.trans (hE.mono ak),hI.kc.trans (KeptC.ext hE)⟩
 rw[hI.eq,hp];unfold prR;rw[List.map_cons];simp only[zay];rw[hn];simp only[Bool.false_eq_true,if_false,Z6,List.append_assoc]
theorem zyn (lo tp:Nat) (T:Tab) (b:List UInt8) (kind:Int) (d:List UInt8) (w:World) (ht:TabR w lo tp T) (hb:b.length≤200000) (hT:T.length≤b.length) (hd:d.length≤200000) (hm:rmay kind d=true):
 Calls Tryz.prog 178 #[S b,.pointer (some ⟨tp,0,none⟩),.int .u16 kind,S d] w (zkb lo tp (b++(zdo b.length kind d T).1,(zdo b.length kind d T).2) w):=by
 have HW:=Z7 (zme kind d w (by omega))
 unfold zhq at HW;have aB:=zrx kind d
 have Gn:=Z7 (fun p hp hn=>zFj (p:=p) hm hp hn)
 rw[zpr,hm]at HW;obtain⟨R,hR⟩:∃R,R=(b++(zdo b.length kind d T).1,(zdo b.length kind d T).2):=⟨_,rfl⟩
 rw[←hR];rw[zzw]at hR;generalize (zbz kind d).getD []=ps at*;obtain⟨cmp,jo⟩:∃cmp,cmp=cmpOf kind:=⟨_,rfl⟩
 have AX:=Z7 jo
 rw[←jo]at hR;have ak:lo≤w.heap.size:=by have:=ht.1;have:=ht.lt;omega
 have jn:=ht.lt
 have J0:=ht
 clear jo;go_enter Tryz.func178,Tryz.ntmps178;go_wp2_with fail;refine HW.out.mono ?_;rintro e w1 ⟨v,rfl,bA,ae⟩;obtain⟨A,c,rfl,ag⟩:=bA
 have bo:=ag.cap
 have au:(Value.slice A ps.length c).ownBlock≠some tp:=fun e=>by have:=(ag.blk tp e).1;omega
 have jP:RdwI w1 tp lo cmp ps R (d.length+255) 0 b T w1:=⟨by omega,ht.ext ae,hT,hR,Below.refl _ _,KeptC.refl _ _⟩
 clear hR;unfold maxLen at bo;go_wp2_with fail
 go_loopw [0,12] (fun s0 s12 wr=>∃(k:Nat) (X:List UInt8) (T1:Tab),k≤ps.length∧s12=.int .i64 k∧s0=S X∧RdwI w1 tp lo cmp ps R (d.length+255) k X T1 wr) (fun _ s12 _=>ps.length - (intOf s12).toNat)
 case atStart=>exact⟨0,b,T,Nat.zero_le _,rfl,rfl,jP⟩
 case round=>
  clear jP;obtain⟨k,X,T1,hk,rfl,rfl,hI⟩:=hrel
  obtain⟨wo,rfl⟩:∃wo:World,wo=wr:=⟨_,rfl⟩
  by_cases ab:k<ps.length
  ·obtain⟨g,rfl,_,_⟩:=ag.addr (by omega)
   have HS:=Z7 (show ps.drop k=ps[k]::ps.drop (k+1)from List.drop_eq_getElem_cons ab)
   have xS:=List.getElem_mem ab
   have AY:=aB.2 _ xS
   have AZ:=Z7 (Gn.out _ xS)
   have HC:=Z7 (fun V (hK:KeptC tp w1 V)=>(show V.cell? ⟨g,k*2,none⟩=some (S ps[k].s)∧V.cell? ⟨g,k*2+1,none⟩=some (.bool ps[k].nm)from by
    obtain⟨b',off',e,_,_,hc⟩:=(ag.keptC hK au).rd.2 (by omega)
    injection e with e
    injection e with e1 e2
    subst e1 e2;have h:=zb7 Pr.cells 2 (fun _=>rfl) ps k
    have h0:=hc (k*2+0) (S ps[k].s) (by rw[h 0 _ (Z3 ab) (by omega)];rfl)
    have h1:=hc (k*2+1) (.bool ps[k].nm) (by rw[h 1 _ (Z3 ab) (by omega)];rfl)
    simp only[Nat.zero_add,Nat.add_zero]at h0 h1;exact⟨h0,h1⟩))
   generalize ps[k]=p at*;obtain⟨x0,x1⟩:=HC.out wo hI.kc
   have cz:(k:Int)<(ps.length:Int):=by omega
   have cW:(0:Int)≤(k:Int):=by omega
   have jf:lo≤wo.heap.size:=by have:=hI.kc.1;have:=ae.size;omega
   have AH:X.length≤1048576:=by
    have h1:=hI.xl
    have h2:k*(d.length+255)≤4*(d.length+255):=Nat.mul_le_mul_right _ (by omega)
    omega
   rcases fh:p.nm with _|_
   ·have pL:=zFr hI HS.out fh AY (Z5 wo) jf
    have lV:=Z7 pL
    clear pL;rw[fh]at x1;have Dy:¬9223372036854775807<X.length+p.s.length:=by omega
    go_wp2_with fail;go_roundw
    case rel=>exact⟨k+1,X++p.s,T1,by omega,by go_num,rfl,lV.out⟩
    case measure=>simp[intOf];omega
   ·have nH:=AZ.out fh
    have vP:=Z7 (fun V (hV:Ext wo V)=>zl1 lo tp T1 X p.s cmp cmp V (hI.tab.ext hV) AH hI.tl nH)
    unfold zkb at vP;have lV:=Z7 (fun W jG hB hK=>zFq (W:=W) hI HS.out fh nH (by omega) jG hB hK)
    rw[fh]at x1;have Ba:=Z7 (fun V=>zpe kind V)
    rw[←AX.out]at Ba;have Bb:∀V,KeptC tp wo.drew V→V.cell? ⟨g,k*2,none⟩=some (S p.s):=fun V hK=>(HC.out V ((hI.kc.trans (KeptC.ext (Z5 wo).drew)).trans hK)).1
    go_upto_region 8 with fail
    refine wp_region_noPanic ?_;refine za6 (S:=(fun V=>V.cell? ⟨g,k*2,none⟩=some (S p.s))) (.take 0 (.take 1 (.take 2 (.take 3 (.take 4 (.take 5 (.take 6 (.take 7 (.take 9 (.run 8 (.run 10 (.run 11 (.take 12 (.take 13 (.take 14 (.take 15 (.done))))))))))))))))) (by kernel_rfl) (by kernel_rfl) (fun _ _ _ _ _ h=>h) ((by simpa using x0)) ?_
    repeat((with_reducible refine za7 ?_);first
     |(refine za4 (v:=?_) (by rfl) (by rfl) ?_ ?_;rotate_left;(focus(intro V hV;(try dsimp only at hV);(go_simp<;>with_reducible rfl)));(try simp only[ap]))
     |(refine zaf (by rfl) (by rfl) ?_;(try simp only[ap])))
    refine za5 (by rfl) (fun K hK=>?_)
    go_simp;refine(Ba.out _).mono ?_;rintro e wq ⟨rfl,rfl⟩;refine hK.out _ _ ?_ ?_
    ·exact(by simpa using x0)
    clear hK K
    (try simp only[ap])
    refine za5 (by rfl) (fun K hK=>?_)
    go_simp;refine(Ba.out _).mono ?_;rintro e wq ⟨rfl,rfl⟩;refine hK.out _ _ ?_ ?_
    ·exact(by simpa using x0)
    clear hK K
    (try simp only[ap])
    refine za5 (by rfl) (fun K hK=>?_)
    go_simp;refine(vP.out _ (Z5 wo).drew).mono ?_;rintro e w5 ⟨rfl,jG,nL,mS⟩;refine hK.out _ _ ?_ ?_
    ·exact(Bb w5 mS)
    clear hK K
    (try simp only[ap])
    repeat((with_reducible refine za7 ?_);first
     |(refine za4 (v:=?_) (by rfl) (by rfl) ?_ ?_;rotate_left;(focus(intro V hV;(try dsimp only at hV);(go_simp<;>with_reducible rfl)));(try simp only[ap]))
     |(refine zaf (by rfl) (by rfl) ?_;(try simp only[ap])))
    refine zag ?_;refine NoPanic.normal ?_;go_wp2_with fail;go_roundw
    case rel=>exact⟨k+1,_,_,by omega,by go_num,rfl,lV.out w5 jG (((Z5 wo).drew.mono jf).trans nL) ((KeptC.ext (Z5 wo).drew).trans mS)⟩
    case measure=>simp[intOf];omega
  ·obtain rfl:k=ps.length:=by omega
   have HF:=Z7 (show R=(X,T1)by rw[hI.eq,List.drop_length];simp[prR,zay])
   go_wp2_with fail
   go_ret2
   rw[HF.out];exact⟨rfl,hI.tab,(ae.mono ak).trans hI.blw,(KeptC.ext ae).trans hI.kc⟩
theorem zcr (n:Nat) (w:World) (hn:n<65536):Calls Tryz.prog 117 #[.int .u64 n,.int .i64 2] w fun e w'=>e=.returned (S (two n))∧Ext w w':=zu1 n 2 w (by omega) (by omega)
theorem zri (n:Nat) (w:World) (hn:n<4294967296):Calls Tryz.prog 117 #[.int .u64 n,.int .i64 4] w fun e w'=>e=.returned (S (zdp n))∧Ext w w':=by
 have h:=zu1 n 4 w (by omega) hn
 rw[zAz]at h;exact h
def zC2 (e:EdD) (w:World) (x:Ending) (w':World):Prop:=
 ((65535<(zfy e).length∧x=.returned (.tuple #[.int .u16 0,.int .u32 0,S [],.int .i64 5]))∨(¬65535<(zfy e).length∧x=.returned (.tuple #[.int .u16 e.size,.int .u32 (zd3 e:Nat),S (zfy e),.int .i64 0])))∧Ext w w'
theorem zyp (e:EdD) (v:Value) (w:World) (hv:Opts w 0 v e.opts) (h1:0≤e.ext∧e.ext≤255) (h2:0≤e.ver∧e.ver≤255) (h3:0≤e.flags∧e.flags≤65535) (h4:∀o∈e.opts,0≤o.code∧o.code≤65535):
 Calls Tryz.prog 119 #[edV e v] w (zC2 e w):=by
 obtain⟨sz,ex,ve,fl,l⟩:=e
 dsimp only at*;obtain⟨xn,rfl⟩:=Int.eq_ofNat_of_zero_le h1.1
 obtain⟨vn,rfl⟩:=Int.eq_ofNat_of_zero_le h2.1
 obtain⟨fn,rfl⟩:=Int.eq_ofNat_of_zero_le h3.1
 have Gp:=Z7 (show zd3 ⟨sz,xn,vn,fn,l⟩=xn*16777216+vn*65536+fn by unfold zd3;simp only[Int.toNat_natCast])
 have ot:=Z7 (ztl ⟨sz,xn,vn,fn,l⟩)
 obtain⟨A,c,rfl,lD,iU,ay⟩:=hv
 unfold maxLen at iU;obtain⟨X0,ar⟩:∃X0,X0=w.alloc (.cells #[.int .u16 sz,.int .u8 (xn:Int),.int .u8 (vn:Int),.int .u16 (fn:Int),.slice A l.length c] 43):=⟨_,rfl⟩
 have aP:Ext w X0:=by rw[ar];exact(Z5 _).alloc _
 have r0:X0.heap[w.heap.size]? =some (.cells #[.int .u16 sz,.int .u8 (xn:Int),.int .u8 (vn:Int),.int .u16 (fn:Int),.slice A l.length c] 43):=by rw[ar];exact heap_alloc_new _ _
 have K0:=Z7 (fun V (hV:Ext X0 V)=>Z8 hV r0)
 go_enter Tryz.func119,Tryz.ntmps119;go_upto_region 1 with fail
 rw[←ar];clear ar;go_wp2_with fail
 go_loopw [2,3,4,5,6,7] (fun s2 s3 s4 s5 s6 s7 wr=>∃k:Nat,k≤l.length∧s7=.int .i64 k∧s6=S (opsW (l.take k))∧(opsW (l.take k)).length≤65535∧Ext X0 wr∧s2=.int .u16 0∧s3=.int .u32 0∧s4=.string ⟨#[]⟩∧s5=.int .i64 0) (fun _ _ _ _ _ s7 _=>l.length - (intOf s7).toNat)
 case atStart=>exact⟨0,Nat.zero_le _,rfl,rfl,by simp[opsW],Z5 _,rfl,rfl,rfl,rfl⟩
 case round=>
  obtain⟨k,hk,rfl,rfl,cv,hE,rfl,rfl,rfl,rfl⟩:=hrel
  obtain⟨wo,rfl⟩:∃wo:World,wo=wr:=⟨_,rfl⟩
  have q4:wo.cell? ⟨w.heap.size,4,none⟩=some (.slice A l.length c):=za0 (K0.out _ hE) rfl
  by_cases ab:k<l.length
  ·obtain⟨b,off,rfl,_,az,hc⟩:=(ay.ext (aP.trans hE)).2 (by omega)
   obtain⟨c0,c1⟩:=zkn hc k l[k] (Z3 ab)
   have bO:=Z7 (zm3 l k ab)
   have gI:=zq9 l (k+1)
   have cI:=h4 l[k] (List.getElem_mem ab)
   generalize l[k]=o at*;generalize opsW (l.take k)=T at*;clear hc;obtain⟨oc,od⟩:=o
   dsimp only at*;obtain⟨on,rfl⟩:=Int.eq_ofNat_of_zero_le cI.1
   have J1:(on:Int)≤65535:=cI.2
   have Gq:(0:Int)≤(on:Int):=cI.1
   have cz:(k:Int)<(l.length:Int):=by omega
   have cW:(0:Int)≤(k:Int):=by omega
   have Gr:=Z7 (show opW ⟨(on:Int),od⟩=two on++two od.length++od by unfold opW;simp only[Int.toNat_natCast])
   have Bc:=Z7 (show(opsW (l.take (k+1))).length=T.length+(4+od.length)by rw[bO.out,Z6,zq8])
   by_cases ib:65535<od.length
   ·have cQ:(65535:Int)<(od.length:Int):=by omega
    have nW:65535<(opsW l).length:=by have:=Bc.out;omega
    have Gs:=Z7 nW
    clear nW;go_wp2_with fail;refine bodyPost_ret (ze6 rfl _ _ _) rfl ⟨.inl ⟨by rw[ot.out];exact Gs.out,rfl⟩,aP.trans (hE.alloc _)⟩
   ·have cQ:¬((65535:Int)<(od.length:Int)):=by omega
    have J2:(od.length:Int)≤65535:=by omega
    have yE:=Z7 (fun V=>zcr on V (by omega))
    have vQ:=Z7 (fun V=>zcr od.length V (by omega))
    go_upto_region 8 with fail
    obtain⟨X5,m4⟩:∃X5,X5=wo.alloc (.cells #[.int .u16 (on:Int),S od] 182):=⟨_,rfl⟩
    have am:Ext wo X5:=by rw[m4];exact(Z5 _).alloc _
    obtain⟨gO,Bd⟩:∃gO,gO=wo.heap.size:=⟨_,rfl⟩
    have r5:X5.heap[gO]? =some (.cells #[.int .u16 (on:Int),S od] 182):=by rw[m4,Bd];exact heap_alloc_new _ _
    have Be:=Z7 (fun V (hV:Ext X5 V)=>(show V.cell? ⟨gO,0,none⟩=some (.int .u16 (on:Int))∧V.cell? ⟨gO,1,none⟩=some (S od)from by
     have:=Z8 hV r5
     exact⟨za0 this rfl,za0 this rfl⟩))
    rw[←m4,←Bd];clear m4 Bd r5;have lL:IntKind.u64.wrap (on:Int)=(on:Int):=IntWalk.u64_in _ (by omega)
    have kp:IntKind.u64.wrap (od.length:Int)=(od.length:Int):=IntWalk.u64_in _ (by omega)
    have o1:¬9223372036854775807<T.length+(two on).length:=by rw[zah];omega
    have o2:¬9223372036854775807<T.length+(two on).length+(two od.length).length:=by rw[zah,zah];omega
    have o3:¬9223372036854775807<T.length+((two on).length+(two od.length).length)+od.length:=by rw[zah,zah];omega
    refine wp_region_noPanic ?_;refine za6 (S:=(fun V=>V.cell? ⟨gO,0,none⟩=some (.int .u16 (on:Int))∧V.cell? ⟨gO,1,none⟩=some (S od))) (.take 0 (.take 1 (.take 2 (.take 3 (.take 6 (.take 7 (.take 8 (.take 9 (.take 12 (.take 13 (.run 4 (.take 5 (.run 10 (.take 11 (.take 14 (.take 15 (.done))))))))))))))))) (by kernel_rfl) (by kernel_rfl) (fun _ _ _ _ _ h=>h) ((Be.out _ (Z5 X5).drew)) ?_
    repeat((with_reducible refine za7 ?_);first
     |(refine za4 (v:=?_) (by rfl) (by rfl) ?_ ?_;rotate_left;(focus(intro V hV;(try dsimp only at hV);(go_simp<;>with_reducible rfl)));(try simp only[ap]))
     |(refine zaf (by rfl) (by rfl) ?_;(try simp only[ap])))
    refine za5 (by rfl) (fun K hK=>?_)
    go_simp;refine(yE.out _).mono ?_;rintro e w6 ⟨rfl,jq⟩;have aw:Ext X5 w6:=Ext.trans ((Z5 X5).drew) jq
    refine hK.out _ _ ?_ ?_
    ·exact(Be.out _ aw)
    clear hK K
    (try simp only[ap])
    repeat((with_reducible refine za7 ?_);first
     |(refine za4 (v:=?_) (by rfl) (by rfl) ?_ ?_;rotate_left;(focus(intro V hV;(try dsimp only at hV);(go_simp<;>with_reducible rfl)));(try simp only[ap]))
     |(refine zaf (by rfl) (by rfl) ?_;(try simp only[ap])))
    refine za5 (by rfl) (fun K hK=>?_)
    go_simp;refine(vQ.out _).mono ?_;rintro e w7 ⟨rfl,lW⟩;have aS:Ext X5 w7:=aw.trans lW
    refine hK.out _ _ ?_ ?_
    ·exact(Be.out _ aS)
    clear hK K
    (try simp only[ap])
    repeat((with_reducible refine za7 ?_);first
     |(refine za4 (v:=?_) (by rfl) (by rfl) ?_ ?_;rotate_left;(focus(intro V hV;(try dsimp only at hV);(go_simp<;>with_reducible rfl)));(try simp only[ap]))
     |(refine zaf (by rfl) (by rfl) ?_;(try simp only[ap])))
    refine zag ?_;refine NoPanic.normal ?_;go_wp2_with fail
    ·refine bodyPost_ret (ze6 rfl _ _ _) rfl ⟨.inl ⟨by rw[ot.out];have h1:=Bc.out;have h2:=zah on;have h3:=zah od.length;omega,rfl⟩,aP.trans (hE.trans (am.trans aS))⟩
    ·go_roundw
     case rel=>exact⟨k+1,by omega,by go_num,by rw[bO.out,Gr.out];simp only[List.append_assoc],by rw[Bc.out];have h2:=zah on;have h3:=zah od.length;omega,hE.trans (am.trans aS),rfl,rfl,rfl,rfl⟩
     case measure=>simp[intOf];omega
  ·obtain rfl:k=l.length:=by omega
   rw[List.take_length]at cv ⊢;have lJ:¬65535<(opsW l).length:=by omega
   have q0:wo.cell? ⟨w.heap.size,0,none⟩=some (.int .u16 sz):=za0 (K0.out _ hE) rfl
   have q1:wo.cell? ⟨w.heap.size,1,none⟩=some (.int .u8 (xn:Int)):=za0 (K0.out _ hE) rfl
   have q2:wo.cell? ⟨w.heap.size,2,none⟩=some (.int .u8 (vn:Int)):=za0 (K0.out _ hE) rfl
   have q3:wo.cell? ⟨w.heap.size,3,none⟩=some (.int .u16 (fn:Int)):=za0 (K0.out _ hE) rfl
   have yi:=Z7 lJ
   clear lJ;go_upto_region 11 with fail
   go_quiet (fail)
   go_wp2_with fail;have Hv:=Z7 (show(xn:Int)*16777216+(vn:Int)*65536+(fn:Int)=((zd3 ⟨sz,xn,vn,fn,l⟩:Nat):Int)by rw[Gp.out];omega)
   rw[Hv.out];refine bodyPost_ret (ze6 rfl _ _ _) rfl ⟨.inr ⟨by rw[ot.out];exact yi.out,by rw[ot.out];rfl⟩,(aP.trans hE).drewN _⟩
theorem zmd (v:Value) (l:List RecD) (w:World) (h:Recs w 0 v l) (bB:∀r∈l,zfi r):
 Calls Tryz.prog 174 #[v] w fun e w'=>e=.returned (.bool (decide (l.length≤65535)&&l.all zac))∧Ext w w':=by
 obtain⟨A,c,rfl,h1,h2,ay⟩:=h
 unfold maxLen at h2;by_cases ib:65535<l.length
 ·have hb:(65535:Int)<(l.length:Int):=by omega
  have hd:(decide (l.length≤65535)&&l.all zac)=false:=by rw[decide_eq_false (by omega)];rfl
  rw[hd];go_enter Tryz.func174,Tryz.ntmps174;go_wp2_with fail;go_ret;exact⟨rfl,Z5 _⟩
 have hb:¬(65535:Int)<(l.length:Int):=by omega
 have hd:(decide (l.length≤65535)&&l.all zac)=l.all zac:=by rw[decide_eq_true (by omega)];rfl
 rw[hd];clear hd;obtain⟨R,hR⟩:∃R,R=l.all zac:=⟨_,rfl⟩
 rw[←hR];have HR:=Z7 hR
 clear hR;go_enter Tryz.func174,Tryz.ntmps174;go_wp2_with fail
 go_loopw [3] (fun s3 wr=>∃k:Nat,k≤l.length∧s3=.int .i64 k∧Hid (R=(l.drop k).all zac)∧Ext w wr) (fun s3 _=>l.length - (intOf s3).toNat)
 case atStart=>exact⟨0,Nat.zero_le _,rfl,by simpa using HR,Z5 _⟩
 case round=>
  obtain⟨k,hk,rfl,eC,hE⟩:=hrel
  obtain⟨wo,rfl⟩:∃wo:World,wo=wr:=⟨_,rfl⟩
  by_cases ab:k<l.length
  ·obtain⟨b,off,rfl,_,az,hc⟩:=(ay.ext hE).2 (by omega)
   obtain⟨x0,x1,x2,x3,x4⟩:=zfe hc k l[k] (Z3 ab)
   have HD:=Z7 (show(l.drop k).all zac=(zac l[k]&&(l.drop (k+1)).all zac)by rw[List.drop_eq_getElem_cons ab];rfl)
   have Bf:=Z7 (zB5 l[k])
   have Bg:=bB l[k] (List.getElem_mem ab)
   generalize l[k]=r at*;obtain⟨nm,ty,cl,tt,da⟩:=r
   dsimp only at*;unfold zfi at Bg;have cz:(k:Int)<(l.length:Int):=by omega
   have cW:(0:Int)≤(k:Int):=by omega
   have HM:=Z7 (fun V=>zc3 nm V Bg.1)
   have yF:=Z7 (fun V=>zl3 ty da V Bg.2)
   have HS:=Z7 (fun V (hV:Ext wo V)=>(show V.cell? ⟨b,off+k*5,none⟩=some (S nm)∧V.cell? ⟨b,off+k*5+1,none⟩=some (.int .u16 ty)∧V.cell? ⟨b,off+k*5+4,none⟩=some (S da)from
    ⟨(hV.cell (p:=⟨b,off+k*5,none⟩) az).trans x0,(hV.cell (p:=⟨b,off+k*5+1,none⟩) az).trans x1,(hV.cell (p:=⟨b,off+k*5+4,none⟩) az).trans x4⟩))
   clear hc;rcases hm:may nm with _|_
   ·rw[hm]at HM;have HF:=Z7 (show R=false by rw[eC.out,HD.out,Bf.out,hm];rfl)
    go_upto_region 6 with fail
    refine wp_region_noPanic ?_;refine za6 (S:=(fun V=>V.cell? ⟨b,off+k*5,none⟩=some (S nm)∧V.cell? ⟨b,off+k*5+1,none⟩=some (.int .u16 ty)∧V.cell? ⟨b,off+k*5+4,none⟩=some (S da))) (.take 0 (.take 1 (.take 2 (.take 3 (.take 4 (.run 5 (.take 6 (.take 7 (.take 8 (.take 9 (.take 10 (.take 11 (.take 12 (.take 13 (.take 14 (.take 15 (.take 16 (.take 17 (.take 18 (.take 19 (.take 20 (.done)))))))))))))))))))))) (by kernel_rfl) (by kernel_rfl) (fun _ _ _ _ _ h=>h) ((HS.out _ (Z5 wo).drew)) ?_
    repeat((with_reducible refine za7 ?_);first
     |(refine za4 (v:=?_) (by rfl) (by rfl) ?_ ?_;rotate_left;(focus(intro V hV;(try dsimp only at hV);(go_simp<;>with_reducible rfl)));(try simp only[ap]))
     |(refine zaf (by rfl) (by rfl) ?_;(try simp only[ap])))
    refine za5 (by rfl) (fun K hK=>?_)
    go_simp;refine(HM.out _).mono ?_;rintro e w6 ⟨rfl,jq⟩;have aw:Ext wo w6:=Ext.trans ((Z5 wo).drew) jq
    refine hK.out _ _ ?_ ?_
    ·exact(HS.out _ aw)
    clear hK K
    (try simp only[ap])
    repeat((with_reducible refine za7 ?_);first
     |(refine za4 (v:=?_) (by rfl) (by rfl) ?_ ?_;rotate_left;(focus(intro V hV;(try dsimp only at hV);(go_simp<;>with_reducible rfl)));(try simp only[ap]))
     |(refine zaf (by rfl) (by rfl) ?_;(try simp only[ap])))
    refine zag ?_;refine NoPanic.normal ?_;go_wp2_with fail;go_ret;exact⟨by rw[HF.out];rfl,hE.trans aw⟩
   ·rw[hm]at HM;rcases gH:rmay ty da with _|_
    ·rw[gH]at yF;have HF:=Z7 (show R=false by rw[eC.out,HD.out,Bf.out,hm,gH];rfl)
     go_upto_region 6 with fail
     refine wp_region_noPanic ?_;refine za6 (S:=(fun V=>V.cell? ⟨b,off+k*5,none⟩=some (S nm)∧V.cell? ⟨b,off+k*5+1,none⟩=some (.int .u16 ty)∧V.cell? ⟨b,off+k*5+4,none⟩=some (S da))) (.take 0 (.take 1 (.take 2 (.take 3 (.take 4 (.run 5 (.take 6 (.take 7 (.take 8 (.take 9 (.take 10 (.take 11 (.take 12 (.take 13 (.take 14 (.take 15 (.take 16 (.take 17 (.run 18 (.take 19 (.take 20 (.done)))))))))))))))))))))) (by kernel_rfl) (by kernel_rfl) (fun _ _ _ _ _ h=>h) ((HS.out _ (Z5 wo).drew)) ?_
     repeat((with_reducible refine za7 ?_);first
      |(refine za4 (v:=?_) (by rfl) (by rfl) ?_ ?_;rotate_left;(focus(intro V hV;(try dsimp only at hV);(go_simp<;>with_reducible rfl)));(try simp only[ap]))
      |(refine zaf (by rfl) (by rfl) ?_;(try simp only[ap])))
     refine za5 (by rfl) (fun K hK=>?_)
     go_simp;refine(HM.out _).mono ?_;rintro e w6 ⟨rfl,jq⟩;have aw:Ext wo w6:=Ext.trans ((Z5 wo).drew) jq
     refine hK.out _ _ ?_ ?_
     ·exact(HS.out _ aw)
     clear hK K
     (try simp only[ap])
     repeat((with_reducible refine za7 ?_);first
      |(refine za4 (v:=?_) (by rfl) (by rfl) ?_ ?_;rotate_left;(focus(intro V hV;(try dsimp only at hV);(go_simp<;>with_reducible rfl)));(try simp only[ap]))
      |(refine zaf (by rfl) (by rfl) ?_;(try simp only[ap])))
     refine za5 (by rfl) (fun K hK=>?_)
     go_simp;refine(yF.out _).mono ?_;rintro e w7 ⟨rfl,lW⟩;have aS:Ext wo w7:=aw.trans lW
     refine hK.out _ _ ?_ ?_
     ·exact(HS.out _ aS)
     clear hK K
     (try simp only[ap])
     repeat((with_reducible refine za7 ?_);first
      |(refine za4 (v:=?_) (by rfl) (by rfl) ?_ ?_;rotate_left;(focus(intro V hV;(try dsimp only at hV);(go_simp<;>with_reducible rfl)));(try simp only[ap]))
      |(refine zaf (by rfl) (by rfl) ?_;(try simp only[ap])))
     refine zag ?_;refine NoPanic.normal ?_;go_wp2_with fail;go_ret;exact⟨by rw[HF.out];rfl,hE.trans aS⟩
    ·rw[gH]at yF;have HF:=Z7 (show R=(l.drop (k+1)).all zac by rw[eC.out,HD.out,Bf.out,hm,gH];rfl)
     go_upto_region 6 with fail
     refine wp_region_noPanic ?_;refine za6 (S:=(fun V=>V.cell? ⟨b,off+k*5,none⟩=some (S nm)∧V.cell? ⟨b,off+k*5+1,none⟩=some (.int .u16 ty)∧V.cell? ⟨b,off+k*5+4,none⟩=some (S da))) (.take 0 (.take 1 (.take 2 (.take 3 (.take 4 (.run 5 (.take 6 (.take 7 (.take 8 (.take 9 (.take 10 (.take 11 (.take 12 (.take 13 (.take 14 (.take 15 (.take 16 (.take 17 (.run 18 (.take 19 (.take 20 (.done)))))))))))))))))))))) (by kernel_rfl) (by kernel_rfl) (fun _ _ _ _ _ h=>h) ((HS.out _ (Z5 wo).drew)) ?_
     repeat((with_reducible refine za7 ?_);first
      |(refine za4 (v:=?_) (by rfl) (by rfl) ?_ ?_;rotate_left;(focus(intro V hV;(try dsimp only at hV);(go_simp<;>with_reducible rfl)));(try simp only[ap]))
      |(refine zaf (by rfl) (by rfl) ?_;(try simp only[ap])))
     refine za5 (by rfl) (fun K hK=>?_)
     go_simp;refine(HM.out _).mono ?_;rintro e w6 ⟨rfl,jq⟩;have aw:Ext wo w6:=Ext.trans ((Z5 wo).drew) jq
     refine hK.out _ _ ?_ ?_
     ·exact(HS.out _ aw)
     clear hK K
     (try simp only[ap])
     repeat((with_reducible refine za7 ?_);first
      |(refine za4 (v:=?_) (by rfl) (by rfl) ?_ ?_;rotate_left;(focus(intro V hV;(try dsimp only at hV);(go_simp<;>with_reducible rfl)));(try simp only[ap]))
      |(refine zaf (by rfl) (by rfl) ?_;(try simp only[ap])))
     refine za5 (by rfl) (fun K hK=>?_)
     go_simp;refine(yF.out _).mono ?_;rintro e w7 ⟨rfl,lW⟩;have aS:Ext wo w7:=aw.trans lW
     refine hK.out _ _ ?_ ?_
     ·exact(HS.out _ aS)
     clear hK K
     (try simp only[ap])
     repeat((with_reducible refine za7 ?_);first
      |(refine za4 (v:=?_) (by rfl) (by rfl) ?_ ?_;rotate_left;(focus(intro V hV;(try dsimp only at hV);(go_simp<;>with_reducible rfl)));(try simp only[ap]))
      |(refine zaf (by rfl) (by rfl) ?_;(try simp only[ap])))
     refine zag ?_;refine NoPanic.normal ?_;go_wp2_with fail;go_roundw
     case rel=>exact⟨k+1,by omega,by go_num,HF,hE.trans aS⟩
     case measure=>simp[intOf];omega
  ·obtain rfl:k=l.length:=by omega
   have HF:=Z7 (show R=true by rw[eC.out,List.drop_length];rfl)
   go_wp2_with fail;go_ret;exact⟨by rw[HF.out];rfl,hE⟩
end Go.Proofs.YtdnpmapelmjfpaaGreatDoor
