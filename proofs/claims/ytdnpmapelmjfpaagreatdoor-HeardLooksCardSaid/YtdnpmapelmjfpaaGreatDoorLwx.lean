/- Lemmas of this claim. No condition. -/
import Derived.Test.YtdnpmapelmjfpaaGreatDoorLwm
import Derived.Test.YtdnpmapelmjfpaaGreatDoorLht
import Derived.Deep.DeepCutAuto
import Derived.Laws.CopyRow
set_option maxHeartbeats 4000000
set_option linter.unusedVariables false
set_option linter.unusedSimpArgs false
set_option maxRecDepth 100000
namespace Go.Proofs.YtdnpmapelmjfpaaGreatDoor
open Go.RowKit
def zli (x:List UInt8) (w:World) (e:Ending) (w':World):Prop:=
 ∃A c,e=.returned (.slice A x.length c)∧Own w' w.heap.size 5 1 A x.length c (x.map U8)∧Ext w w'
theorem zj4 {w w':World} (h:w.grownBy w' none):Ext w w':=(Below.refl _ _).grown h (Z4 _) (fun k hk=>by cases hk)
theorem zw8 (lo lo':Nat) (A:Option Addr) (c:Nat) (B:Option Addr) (d:Nat) (l m:List UInt8) (w:World) (ha:Rd w lo 1 A l.length (l.map U8)) (hb:Rd w lo' 1 B m.length (m.map U8))
 (hl:l.length≤1073741824) (hm:m.length≤1073741824):
 Calls Tryz.prog 157 #[.slice A l.length c,.slice B m.length d] w (zli (l++m) w):=by
 obtain⟨i0,aH,aF,aC,ax⟩:=info_parts zfa
 go_enter Tryz.func157,Tryz.ntmps157;go_wp2_with(first
  |(refine wpList_make_own _ rfl _ _ _ rfl w.heap.size 5 i0 _ 1 Tryz.underlying110 aH aF aC _ _ _ (l.length+m.length) rfl rfl (by go_num) (by rw[ax];omega) (by unfold maxLen;omega) (Z4 _) ?_
    intro w1 bm bh;have ae:=zj4 bh)
  |(at_builtin
    refine zad _ rfl (.tmp 12) (.tmp 13) _ rfl w.heap.size 5 i0 _ 1 1 Tryz.underlying110 aH aF aC ax rfl (by omega) (some ⟨w.heap.size,0,none⟩) 0 (l.length+m.length) [] rfl bm lo A l.length c (l.map U8) rfl (ha.ext ae) (zf6 _) (by omega) (by omega) ae.size ?_
    intro A2 c2 w2 aI ci cj _;rw[Nat.zero_add,List.nil_append]at aI;rw[Nat.zero_add];have ah:Ext w w2:=ae.then cj (Z4 _))
  |(at_builtin
    refine zad _ rfl (.tmp 15) (.tmp 16) _ rfl w.heap.size 5 i0 _ 1 1 Tryz.underlying110 aH aF aC ax rfl (by omega) A2 l.length c2 (l.map U8) rfl aI lo' B m.length d (m.map U8) rfl (hb.ext ah) (zf6 _) (by omega) (by omega) ah.size ?_
    intro A3 c3 w3 cR dQ j6 _;have ao:Ext w w3:=ah.then j6 (Z4 _)))
 go_ret;refine⟨A3,c3,by rw[Z6];rfl,?_,ao⟩
 rw[Z6,List.map_append];exact cR
theorem ziw (k:Nat) (n:Int) (h:n=(k:Int)):Value.int .u8 (n%256)=U8 (UInt8.ofNat k):=by
 subst h;show Value.int .u8 _=.int .u8 (((UInt8.ofNat k).toNat:Nat):Int)
 rw[UInt8.toNat_ofNat'];exact congrArg _ rfl
theorem zBx (n:Int) (h0:0≤n) (h1:n≤65535):[Value.int .u8 (n/256),.int .u8 (n%256)]=(two n.toNat).map U8:=by
 obtain⟨k,rfl⟩:=Int.eq_ofNat_of_zero_le h0
 have e1:=ziw (k/256) ((k:Int)/256) (by omega)
 have e2:=ziw k (k:Int) rfl
 rw[show(k:Int)/256%256=(k:Int)/256 by omega]at e1
 rw[e1,e2];rfl
theorem zdw (lo:Nat) (A:Option Addr) (c:Nat) (l:List UInt8) (n:Int) (w:World) (ha:Rd w lo 1 A l.length (l.map U8)) (hl:l.length≤1073741822) (h0:0≤n∧n≤65535):
 Calls Tryz.prog 95 #[.slice A l.length c,.int .u16 n] w (zli (l++two n.toNat) w):=by
 have fm:=zBx n h0.1 h0.2
 obtain⟨x,y,ey⟩:∃x y,two n.toNat=[x,y]:=⟨_,_,rfl⟩
 rw[ey]at fm;have hr:Rd (w.alloc (.cells #[.int .u8 (n/256),.int .u8 (n%256)] 5)) 0 1 (some ⟨w.heap.size,0,none⟩) 2 ([x,y].map U8):=by
  rw[show(#[.int .u8 (n/256),.int .u8 (n%256)]:Array Value)=([Value.int .u8 (n/256),.int .u8 (n%256)]).toArray from rfl,fm]
  exact zaw w w.heap.size rfl _ _ 2 1 rfl
 have hC:=Z7 (zw8 lo 0 A c (some ⟨w.heap.size,0,none⟩) 2 l [x,y] _ (ha.ext ((Z5 w).alloc _)) hr (by omega) (by simp))
 rw[ey];clear fm hr ey;go_enter Tryz.func95,Tryz.ntmps95;go_wp2_with fail;refine hC.out.mono ?_;rintro e w1 ⟨A1,c1,rfl,ho,hE⟩;go_wp2_with fail;go_ret;exact⟨A1,c1,by rw[Z6];rfl,ho.lower (by simp),((Z5 w).alloc _).trans hE⟩
theorem zxo (n:Int) (h0:0≤n) (h1:n≤4294967295):[Value.int .u8 (n/16777216),.int .u8 (n/65536%256),.int .u8 (n/256%256),.int .u8 (n%256)]=(zdp n.toNat).map U8:=by
 obtain⟨k,rfl⟩:=Int.eq_ofNat_of_zero_le h0
 have e1:=ziw (k/16777216) ((k:Int)/16777216) (by omega)
 have e2:=ziw (k/65536) ((k:Int)/65536) (by omega)
 have e3:=ziw (k/256) ((k:Int)/256) (by omega)
 have e4:=ziw k (k:Int) rfl
 rw[show(k:Int)/16777216%256=(k:Int)/16777216 by omega]at e1
 rw[e1,e2,e3,e4];rfl
theorem zCn (lo:Nat) (A:Option Addr) (c:Nat) (l:List UInt8) (n:Int) (w:World) (ha:Rd w lo 1 A l.length (l.map U8)) (hl:l.length≤1073741820) (h0:0≤n∧n≤4294967295):
 Calls Tryz.prog 159 #[.slice A l.length c,.int .u32 n] w (zli (l++zdp n.toNat) w):=by
 have fm:=zxo n h0.1 h0.2
 obtain⟨x,y,z,u,ey⟩:∃x y z u,zdp n.toNat=[x,y,z,u]:=⟨_,_,_,_,rfl⟩
 rw[ey]at fm;have hr:Rd (w.alloc (.cells #[.int .u8 (n/16777216),.int .u8 (n/65536%256),.int .u8 (n/256%256),.int .u8 (n%256)] 5)) 0 1 (some ⟨w.heap.size,0,none⟩) 4 ([x,y,z,u].map U8):=by
  rw[show(#[.int .u8 (n/16777216),.int .u8 (n/65536%256),.int .u8 (n/256%256),.int .u8 (n%256)]:Array Value)=([Value.int .u8 (n/16777216),.int .u8 (n/65536%256),.int .u8 (n/256%256),.int .u8 (n%256)]).toArray from rfl,fm]
  exact zaw w w.heap.size rfl _ _ 4 1 rfl
 have hC:=Z7 (zw8 lo 0 A c (some ⟨w.heap.size,0,none⟩) 4 l [x,y,z,u] _ (ha.ext ((Z5 w).alloc _)) hr (by omega) (by simp))
 rw[ey];clear fm hr ey;go_enter Tryz.func159,Tryz.ntmps159;go_wp2_with fail;refine hC.out.mono ?_;rintro e w1 ⟨A1,c1,rfl,ho,hE⟩;go_wp2_with fail;go_ret;exact⟨A1,c1,by rw[Z6];rfl,ho.lower (by simp),((Z5 w).alloc _).trans hE⟩
def TabAt (w:World) (lo tp:Nat) (T:Tab):Prop:=lo≤tp∧zkc T∧
 ((w.heap[tp]? =some (.cells #[.map none] 259)∧T=[])∨∃b,w.heap[tp]? =some (.cells #[.map (some b)] 259)∧lo≤b∧TMap w b T)
def KeptC (tp:Nat) (w w':World):Prop:=w.heap.size≤w'.heap.size∧∀(g:Nat) (cs:Array Value) (t:TypeId) (m:Nat×Nat),g≠tp→w.heap[g]? =some (.cells cs t m)→w'.heap[g]? =some (.cells cs t m)
theorem KeptC.refl (tp:Nat) (w:World):KeptC tp w w:=⟨Z4 _,fun _ _ _ _ _ h=>h⟩
theorem KeptC.trans {tp:Nat} {a b c:World} (h:KeptC tp a b) (k:KeptC tp b c):KeptC tp a c:=⟨Z2 h.1 k.1,fun g cs t m au hg=>k.2 g cs t m au (h.2 g cs t m au hg)⟩
theorem KeptC.ext {tp:Nat} {w w':World} (h:Ext w w'):KeptC tp w w':=⟨h.size,fun g cs t m _ hg=>(h.block g (Z9 hg)).trans hg⟩
theorem KeptC.set {tp:Nat} (w:World) (j:Nat) (u:Value):KeptC tp w (w.setCell ⟨tp,j,none⟩ u):=⟨by simp,fun g cs t m au hg=>(Below.heap_setCell w ⟨tp,j,none⟩ u g au).trans hg⟩
theorem TabAt.lt {w:World} {lo tp:Nat} {T:Tab} (h:TabAt w lo tp T):tp<w.heap.size:=by
 obtain⟨_,_,h|⟨b,h,_⟩⟩:=h
 ·exact(Z9 h.1)
 ·exact(Z9 h)
theorem TabAt.ext {w w':World} {lo tp:Nat} {T:Tab} (h:TabAt w lo tp T) (hE:Ext w w'):TabAt w' lo tp T:=by
 have ab:=h.lt
 obtain⟨h1,h2,h|⟨b,h,h3,h4⟩⟩:=h
 ·exact⟨h1,h2,.inl ⟨(hE.block tp ab).trans h.1,h.2⟩⟩
 ·exact⟨h1,h2,.inr ⟨b,(hE.block tp ab).trans h,h3,h4.ext hE⟩⟩
theorem TabAt.kept {w w':World} {lo tp:Nat} {T:Tab} (h:TabAt w lo tp T) {row:Option Nat} (hg:w.grownBy w' row) (hr:∀k,row=some k→k≠tp∧∃cs t m,w.heap[k]? =some (.cells cs t m)):TabAt w' lo tp T:=by
 have ab:=h.lt
 have au:some tp≠row:=fun e=>(hr tp e.symm).1 rfl
 obtain⟨h1,h2,h|⟨b,h,h3,h4⟩⟩:=h
 ·exact⟨h1,h2,.inl ⟨(hg.block tp ab au).trans h.1,h.2⟩⟩
 ·refine⟨h1,h2,.inr ⟨b,(hg.block tp ab au).trans h,h3,h4.kept hg fun e=>?_⟩⟩
  obtain⟨cs,t,m,hc⟩:=(hr b e.symm).2
  obtain⟨es,clock,hb,_⟩:=h4
  rw[hb]at hc;cases hc
theorem zCl (w:World):Calls Tryz.prog 92 #[] w fun e w'=>e=.returned (.pointer (some ⟨w.heap.size,0,none⟩))∧w'=w.alloc (.cells #[.map none] 259):=by
 go_enter Tryz.func92,Tryz.ntmps92;go_wp2_with fail;go_ret;exact⟨rfl,rfl⟩
theorem TabAt.new (w:World) (lo:Nat) (h:lo≤w.heap.size):TabAt (w.alloc (.cells #[.map none] 259)) lo w.heap.size []:=⟨h,zrt,.inl ⟨heap_alloc_new w _,rfl⟩⟩
theorem zFu (lo tp:Nat) (T:Tab) (n:List UInt8) (k:Nat) (w:World) (h:TabAt w lo tp T) (hn:n.length≤255) (hk:k≤16383) (bT:zb6 T n=none):
 Calls Tryz.prog 215 #[.pointer (some ⟨tp,0,none⟩),S n,.int .i64 (k:Int)] w fun e w'=>e=.returned (.tuple #[])∧TabAt w' lo tp (T++[(n,k)])∧Below lo w w'∧KeptC tp w w':=by
 have nJ:zkc (T++[(n,k)]):=by
  have:=zru (known:=true) (pos:=k) h.2.1 hn
  unfold zbs at this;rw[if_pos ⟨rfl,bT,hk⟩]at this;exact this
 have gb:=@run_makeMap Tryz.prog
 have Ff:∀W:World,(binOp BinOp.eql 257 (.map none) (.map none)).run Tryz.prog W=.ok (.bool true) W:=fun _=>by kernel_rfl
 have dx:∀(b:Nat) (W:World),(binOp BinOp.eql 257 (.map (some b)) (.map none)).run Tryz.prog W=.ok (.bool false) W:=fun _ _=>by kernel_rfl
 obtain⟨h1,h2,⟨h,rfl⟩|⟨b,h,h3,h4⟩⟩:=h
 ·have c0:w.cell? ⟨tp,0,none⟩=some (.map none):=by simp[World.cell?,h]
  have f0:w.frozen? ⟨tp,0,none⟩=false:=by simp[World.frozen?,h]
  have hz:=(Z9 h)
  have bH:(w.setCell ⟨tp,0,none⟩ (.map (some w.heap.size))).heap.size=w.heap.size:=by simp
  have hT:TMap ((w.setCell ⟨tp,0,none⟩ (.map (some w.heap.size))).alloc (.map #[] 0)) w.heap.size []:=by
   have:=TMap.made (w.setCell ⟨tp,0,none⟩ (.map (some w.heap.size)))
   rw[bH]at this;exact this
  have hh:((w.setCell ⟨tp,0,none⟩ (.map (some w.heap.size))).alloc (.map #[] 0)).heap[tp]? =some (.cells #[.map (some w.heap.size)] 259):=by
   refine(heap_alloc_old _ _ (by rw[bH];exact hz)).trans ?_
   simp[World.setCell,Array.getElem?_modify,h]
  obtain⟨W2,qL,jd,ci⟩:=hT.store n k (by unfold maxLen;omega) rfl
  have hB:Below lo w W2:=((((Below.refl lo w).setCell h1 _).alloc (by rw[bH];omega) (.map #[] 0))).grown ci (by simp;omega) (fun j hj=>by injection hj with hj;omega)
  have hK:KeptC tp w W2:=by
   refine((KeptC.set w 0 _).trans (KeptC.ext ((Z5 _).alloc (.map #[] 0)))).trans ⟨ci.size,fun g cs t m _ hg=>(ci.block g (Z9 hg) (fun e=>?_)).trans hg⟩
   injection e with e;subst e
   obtain⟨es,clock,hb,_⟩:=hT
   rw[hb]at hg;cases hg
  have Fg:=(ci.block tp (by simp;omega) (fun e=>by injection e with e;omega)).trans hh
  clear hh hT bH;go_enter Tryz.func215,Tryz.ntmps215;go_wp2_with fail
  go_end0
  exact⟨rfl,⟨h1,nJ,.inr ⟨_,Fg,by omega,jd⟩⟩,hB,hK⟩
 ·have c0:w.cell? ⟨tp,0,none⟩=some (.map (some b)):=by simp[World.cell?,h]
  obtain⟨W2,qL,jd,ci⟩:=h4.store n k (by unfold maxLen;omega) bT
  have hz:=(Z9 h)
  have au:some tp≠some b:=fun e=>by
   injection e with e;subst e
   obtain⟨es,clock,hb,_⟩:=h4
   rw[hb]at h;cases h
  have hh:=(ci.block tp hz au).trans h
  have hB:Below lo w W2:=(Below.refl lo w).grown ci (by omega) (fun j hj=>by injection hj with hj;omega)
  have hK:KeptC tp w W2:=⟨ci.size,fun g cs t m _ hg=>(ci.block g (Z9 hg) (fun e=>by
   injection e with e;subst e
   obtain⟨es,clock,hb,_⟩:=h4
   rw[hb]at hg;cases hg)).trans hg⟩
  clear h4;go_enter Tryz.func215,Tryz.ntmps215;go_wp2_with fail
  go_end0
  exact⟨rfl,⟨h1,nJ,.inr ⟨_,hh,h3,jd⟩⟩,hB,hK⟩
theorem Own.keptC {w w':World} {lo:Nat} {e:TypeId} {sz n c:Nat} {A:Option Addr} {xs:List Value} {tp:Nat} (h:Own w lo e sz A n c xs) (hk:KeptC tp w w') (au:(Value.slice A n c).ownBlock≠some tp):Own w' lo e sz A n c xs:=by
 refine⟨h.1,?_⟩;rcases h.2 with h1|⟨g,cap,cur,h1,hg,hh,h4⟩
 ·exact .inl h1
 ·refine .inr ⟨g,cap,cur,h1,hg,hk.2 g _ _ _ (fun e=>au ?_) hh,h4⟩
  rw[h1,e];rfl
theorem Own.row {w:World} {lo:Nat} {e:TypeId} {sz n c:Nat} {A:Option Addr} {xs:List Value} (h:Own w lo e sz A n c xs):∀k,(Value.slice A n c).ownBlock=some k→∃cur,w.heap[k]? =some (.cells cur e (0,0)):=by
 intro k hk;rcases h.2 with⟨h1,_⟩|⟨g,cap,cur,h1,hg,hh,_⟩
 ·rw[h1]at hk;cases hk
 ·rw[h1]at hk;injection hk with hk
  exact⟨cur,by rw[←hk];exact hh⟩
theorem zwn {w:World} {lo lo' tp:Nat} {n c:Nat} {A:Option Addr} {xs:List Value} {T:Tab} (h:Own w lo 5 1 A n c xs) (ht:TabAt w lo' tp T):(Value.slice A n c).ownBlock≠some tp:=fun e=>by
 obtain⟨cur,hc⟩:=h.row tp e
 obtain⟨_,_,⟨h1,_⟩|⟨b,h1,_⟩⟩:=ht
 ·rw[h1]at hc;injection hc with hc;injection hc with _ hc;cases hc
 ·rw[h1]at hc;injection hc with hc;injection hc with _ hc;cases hc
theorem TabAt.keptO {w w':World} {lo lo' tp n c:Nat} {A:Option Addr} {xs:List Value} {T:Tab} (ht:TabAt w lo' tp T) (h:Own w lo 5 1 A n c xs) (hg:w.grownBy w' (Value.slice A n c).ownBlock):TabAt w' lo' tp T:=
 ht.kept hg fun k hk=>⟨fun e=>by subst e;exact zwn h ht hk,by obtain⟨cur,hc⟩:=h.row k hk;exact⟨_,_,_,hc⟩⟩
theorem KeptC.grown {W w w':World} {tp lo n c:Nat} {A:Option Addr} {xs:List Value} (hk:KeptC tp W w) (ho:Own w lo 5 1 A n c xs) (ak:W.heap.size≤lo) (hg:w.grownBy w' (Value.slice A n c).ownBlock):KeptC tp W w':=by
 refine⟨Z2 hk.1 hg.size,fun g cs t m au hh=>?_⟩
 have h1:=hk.2 g cs t m au hh
 refine(hg.block g (Z9 h1) (fun e=>?_)).trans h1
 have:=(ho.blk g e.symm).1
 have:=(Z9 hh)
 omega
theorem zv2 (n:List UInt8) (hn:n.length≤maxLen) (w:World):(Instr.lookup 257 (.map none) (S n) true).run Tryz.prog w=.ok (.tuple #[.int .i64 (((zb6 [] n).getD 0:Nat):Int),.bool (zb6 [] n).isSome]) w:=by
 obtain⟨kl,fk⟩:=zj6 n hn
 rcases zit.find w fk [] (by simp)with⟨f1,_⟩|⟨j,e0,_,f2,_⟩
 ·simp[Instr.lookup,run_underlying Tryz.underlying257,zit.check w _ fk,f1,Tryz.zeroValue3,Result.andThen,zb6]
 ·simp at f2
structure PtInv (w:World) (tp lo:Nat) (cmp known:Bool) (n:List UInt8) (R:List UInt8×Tab) (k:Nat) (X:List UInt8) (A:Option Addr) (c:Nat) (wr:World):Prop where
 kl:k≤n.length
 ps:(zav (n.drop k)).isSome=true
 bd:X.length+(n.drop k).length≤1073742079
 own:Own wr w.heap.size 5 1 A X.length c (X.map U8)
 tab:∃T1,TabAt wr lo tp T1∧(X++(putN cmp known X.length (n.drop k) T1).1,(putN cmp known X.length (n.drop k) T1).2)=R
 blw:Below lo w wr
 kc:KeptC tp w wr
theorem zG9 (k:Nat) (h:k<64):bits BinOp.or IntKind.u8 192 (k:Int)=192+k:=by
 have:∀k:Fin 64,bits BinOp.or IntKind.u8 192 ((k.val:Nat):Int)=192+(k.val:Nat):=by decide
 exact this ⟨k,h⟩
theorem zAy (k:Nat) (h:k≤16383):[Value.int .u8 (bits BinOp.or IntKind.u8 192 ((k:Int)/256)),.int .u8 ((k:Int)%256)]=(zgs k).map U8:=by
 have e1:((k:Int)/256)=((k/256:Nat):Int):=by omega
 have e2:=ziw k (k:Int) rfl
 rw[e1,zG9 _ (by omega),e2]
 have e3:(192+((k/256:Nat):Int))=(((UInt8.ofNat (192+k/256)).toNat:Nat):Int):=by
  rw[UInt8.toNat_ofNat'];omega
 rw[e3];rfl
theorem zDl {cmp known:Bool} {X nk lab r:List UInt8} {b:UInt8} {T1 T2:Tab} {R:List UInt8×Tab} (h1:(X++(putN cmp known X.length nk T1).1,(putN cmp known X.length nk T1).2)=R) (iO:nk=b::r) (h0:b≠0)
 (hn:¬((zb6 T1 nk).isSome=true∧cmp=true)) (bX:lab=b::r.take b.toNat) (hb:b.toNat≤r.length) (hT:zbs known nk X.length T1=T2):
 ((X++lab)++(putN cmp known (X++lab).length (r.drop b.toNat) T2).1,(putN cmp known (X++lab).length (r.drop b.toNat) T2).2)=R:=by
 subst iO bX hT;have hl:(X++b::r.take b.toNat).length=X.length+(1+b.toNat):=by
  simp only[Z6,List.length_cons,List.length_take];omega
 rw[←h1,zrf h0 hn,hl];simp
theorem zjy {w wo W1 W2:World} {tp lo:Nat} {cmp known:Bool} {n nk lab X:List UInt8} {R:List UInt8×Tab} {k c3 c4:Nat} {A3 A4:Option Addr} {b:UInt8} {T1 T2:Tab} (hI:PtInv w tp lo cmp known n R k X A3 c3 wo)
 (hR:(X++(putN cmp known X.length nk T1).1,(putN cmp known X.length nk T1).2)=R) (iO:nk=b::n.drop (k+1)) (h0:b≠0) (hn:¬((zb6 T1 nk).isSome=true∧cmp=true)) (bX:lab=b::(n.drop (k+1)).take b.toNat)
 (hb:b.toNat<n.length - (k+1)) (hp:(zav ((n.drop (k+1)).drop b.toNat)).isSome=true) (hT:zbs known nk X.length T1=T2) (jd:TabAt W1 lo tp T2) (hB:Below lo wo W1) (hK:KeptC tp wo W1)
 (bm:Own W1 w.heap.size 5 1 A3 X.length c3 (X.map U8)) (bS:Own W2 w.heap.size 5 1 A4 (X.length+lab.length) c4 (X.map U8++lab.map U8)) (hg:W1.grownBy W2 (Value.slice A3 X.length c3).ownBlock) (iP:Below w.heap.size W1 W2) (ak:lo≤w.heap.size):
 PtInv w tp lo cmp known n R (k+(1+b.toNat)) (X++lab) A4 c4 W2:=by
 have hd:n.drop (k+(1+b.toNat))=(n.drop (k+1)).drop b.toNat:=by rw[List.drop_drop,Nat.add_assoc]
 have fZ:lab.length=1+b.toNat:=by rw[bX];simp only[List.length_cons,List.length_take,List.length_drop];omega
 have aB:=hI.bd
 rw[List.length_drop]at aB;refine⟨by omega,by rw[hd];exact hp,?_,by rw[Z6,List.map_append];exact bS,⟨T2,jd.keptO bm hg,?_⟩,(hI.blw.trans hB).trans (iP.mono ak),((hI.kc.trans hK)).grown bm (Z4 _) hg⟩
 ·rw[Z6,List.length_drop];omega
 ·rw[hd];exact zDl hR iO h0 hn bX (by rw[List.length_drop];omega) hT
def zsh (tp lo:Nat) (R:List UInt8×Tab) (w:World) (e:Ending) (w':World):Prop:=
 ∃A c,e=.returned (.tuple #[.slice A R.1.length c,.int .i64 0])∧Own w' w.heap.size 5 1 A R.1.length c (R.1.map U8)∧TabAt w' lo tp R.2∧Below lo w w'∧KeptC tp w w'
theorem zwz (lo tp lo':Nat) (T:Tab) (A:Option Addr) (c:Nat) (l n:List UInt8) (cmp known:Bool) (w:World) (ht:TabAt w lo tp T) (ha:Rd w lo' 1 A l.length (l.map U8)) (hl:l.length≤1073741824) (hn:may n=true):
 Calls Tryz.prog 156 #[.pointer (some ⟨tp,0,none⟩),.slice A l.length c,S n,.bool cmp,.bool known] w (zsh tp lo (l++(putN cmp known l.length n T).1,(putN cmp known l.length n T).2) w):=by
 obtain⟨i0,aH,aF,aC,ax⟩:=info_parts zfa
 have ab:=ht.lt
 have pr:=zek hn
 have tf:=zhe hn
 have je:=Z7 (fun W=>zbe n W (by unfold maxLen;omega))
 simp only[hn]at je;obtain⟨R,hR⟩:∃R,R=(l++(putN cmp known l.length n T).1,(putN cmp known l.length n T).2):=⟨_,rfl⟩
 rw[←hR];have HR:=Z7 hR
 clear hR;go_enter Tryz.func156,Tryz.ntmps156;go_wp2_with(first
  |(go_at_call 39;refine(je.out _).mono ?_;rintro e w0 ⟨rfl,rfl⟩)
  |(refine wpList_make_own _ rfl _ _ _ rfl w.heap.size 5 i0 _ 1 Tryz.underlying110 aH aF aC _ _ _ (l.length+n.length) rfl rfl (by go_num) (by rw[ax];omega) (by unfold maxLen;omega) (Z4 _) ?_
    intro w1 bm bh;have ae:=zj4 bh)
  |(at_builtin
    refine zad _ rfl (.tmp 28) (.tmp 29) _ rfl w.heap.size 5 i0 _ 1 1 Tryz.underlying110 aH aF aC ax rfl (by omega) (some ⟨w.heap.size,0,none⟩) 0 (l.length+n.length) [] rfl bm lo' A l.length c (l.map U8) rfl (ha.ext ae) (zf6 _) (by omega) (by omega) ae.size ?_
    intro A2 c2 w2 aI ci cj _;rw[Nat.zero_add,List.nil_append]at aI;rw[Nat.zero_add];have ah:Ext w w2:=ae.then cj (Z4 _))
  |fail)
 go_loopw [10,11,12,13,14,15,16] (fun s10 s11 s12 s13 _ _ _ wr=>∃(k c:Nat) (X:List UInt8) (A:Option Addr),s10=.slice none 0 0∧s11=.int .i64 0∧s12=.slice A X.length c∧s13=.int .i64 k∧PtInv w tp lo cmp known n R k X A c wr) (fun _ _ _ s13 _ _ _ _=>n.length - (intOf s13).toNat)
 case atStart=>exact⟨0,c2,l,A2,rfl,rfl,rfl,rfl,Nat.zero_le _,by simpa using tf,by simp;omega,aI,⟨T,ht.ext ah,by rw[HR.out];simp⟩,ah.mono (by have:=ht.1;omega),KeptC.ext ah⟩
 case round=>
  obtain⟨k,c3,X,A3,rfl,rfl,rfl,rfl,hI⟩:=hrel
  obtain⟨wo,rfl⟩:∃wo:World,wo=wr:=⟨_,rfl⟩
  have hk:k<n.length:=by
   rcases Nat.lt_or_ge k n.length with h|h
   ·exact h
   ·have:=hI.ps;rw[List.drop_of_length_le h,zbx]at this;cases this
  obtain⟨T1,fR,dh⟩:=hI.tab
  obtain⟨b,Hb,cQ,cj,j6⟩:=zbu n k hk
  have bA:=hI.ps
  have aB:=hI.bd
  obtain⟨nk,iO⟩:∃nk,nk=n.drop k:=⟨_,rfl⟩
  have fi:nk.length=n.length - k:=by rw[iO,List.length_drop]
  have uL:(n.drop k).take (n.length - k)=nk:=by rw[iO];exact List.take_of_length_le (by rw[List.length_drop];omega)
  have tg:nk=b::n.drop (k+1):=by rw[iO,List.drop_eq_getElem_cons hk,Hb.out]
  rw[←iO]at bA aB dh;have kT:=Z7 tg
  have eC:=Z7 dh
  have JL:=Z7 iO
  rw[tg]at bA;clear iO tg dh;have cz:(k:Int)<(n.length:Int):=by omega
  have cW:(0:Int)≤(k:Int):=by omega
  by_cases h0:b=0
  ·subst h0;have nK:=zwo bA
   have fo:=hI.own
   have aV:R=(X++[0],T1):=by rw[←eC.out,kT.out,nK,zm5]
   have qM:=Z7 aV
   clear aV nK;have Fh:X.length≤1073742079:=by omega
   go_wp2_with(first
    |(at_builtin
      refine zad _ rfl (.tmp 90) (.tmp 91) _ rfl w.heap.size 5 i0 _ 1 1 Tryz.underlying110 aH aF aC ax rfl (by omega) A3 X.length c3 (X.map U8) rfl (fo.ext ((Z5 _).alloc _)) 0 _ 1 1 ([(0:UInt8)].map U8) rfl (zqf wo 0 _ _ (Nat.zero_le _)) (zf6 _) (by omega) (by omega) (Z2 hI.kc.1 ((Z5 wo).alloc _).size) ?_
      intro A4 c4 W2 bS cY fg _)
    |fail)
   go_ret2
   rw[qM.out];have bQ:Ext wo (wo.alloc (.cells #[.int .u8 0] 5)):=(Z5 _).alloc _
   refine⟨A4,c4,by rw[Z6];rfl,?_,(fR.ext bQ).keptO (fo.ext bQ) cY,(hI.blw.trans (bQ.mono (Z2 (by have:=ht.1;omega) hI.kc.1))).trans (fg.mono (by have:=ht.1;omega)),(hI.kc.trans (KeptC.ext bQ)).grown (fo.ext bQ) (Z4 _) cY⟩
   rw[Z6,List.map_append];exact bS
  ·have C8:b.toNat≠0:=fun e=>h0 (UInt8.toNat_inj.1 (by simpa using e))
   have gL:((b.toNat:Int)==0)=false:=zbm C8
   obtain⟨t7,cH,de⟩:=zqc h0 bA
   clear bA;rw[List.length_drop]at cH;have CS:(k:Int)+1+(b.toNat:Int)≤(n.length:Int):=by omega
   have Fi:(0:Int)≤(k:Int)+1+(b.toNat:Int):=by omega
   obtain⟨lab,bX⟩:∃lab,List.take (k+1+b.toNat - k) (List.drop k n)=lab:=⟨_,rfl⟩
   have cN:=Z7 bX
   have dE:=Z7 (show lab=b::(n.drop (k+1)).take b.toNat by
    rw[←bX,List.drop_eq_getElem_cons hk,Hb.out,show k+1+b.toNat - k=b.toNat+1 by omega,List.take_succ_cons])
   clear bX;have ny:=Z7 (show lab.length=1+b.toNat by rw[dE.out];simp only[List.length_cons,List.length_take,List.length_drop];omega)
   obtain⟨q,hq⟩:∃q,q=zb6 T1 nk:=⟨_,rfl⟩
   obtain⟨mv,c0,gZ⟩:∃mv,wo.cell? ⟨tp,0,none⟩=some mv∧(Instr.lookup 257 mv (S nk) true).run Tryz.prog wo.drew=.ok (.tuple #[.int .i64 ((q.getD 0:Nat):Int),.bool q.isSome]) wo.drew:=by
    rw[hq];obtain⟨_,nJ,⟨h1,h2⟩|⟨g,h1,h2,h3⟩⟩:=fR
    ·refine⟨.map none,by simp[World.cell?,h1],?_⟩
     subst h2;exact zv2 _ (by unfold maxLen;omega) _
    ·exact⟨.map (some g),by simp[World.cell?,h1],(h3.ext (Z5 wo).drew).look nJ.1 _ (by unfold maxLen;omega)⟩
   have Hq:=Z7 hq
   have uM:q.getD 0≤16383:=by rw[hq];exact zug fR.2.1
   clear hq;generalize hqs:q.isSome=qs at*;generalize pu:q.getD 0=qv at*;have iQ:=Z7 hqs
   have zF:=Z7 pu
   clear hqs pu;go_upto_region 9 with fail
   go_region;have fo:=hI.own
   have Fh:X.length≤1073742079:=by omega
   have ak:lo≤w.heap.size:=by have:=ht.1;omega
   have cO:Ext wo wo.drew:=(Z5 wo).drew
   by_cases hc:qs=true∧cmp=true
   ·obtain⟨rfl,rfl⟩:=hc
    have HP:=Z7 (zAy qv uM)
    have aV:R=(X++zgs qv,T1):=by
     have h1:=Hq.out;have h2:=iQ.out;have h3:=zF.out
     rcases q with _|q'
     ·cases h2
     ·rw[←eC.out,kT.out,ztt h0 (k:=q') (by rw[←kT.out,←h1]) rfl]
      rw[show qv=q' from h3.symm]
    have qM:=Z7 aV
    clear aV;have th:(qv:Int)≤16383:=by omega
    have eM:Rd (wo.drew.alloc (.cells #[.int .u8 (bits BinOp.or IntKind.u8 192 ((qv:Int)/256)),.int .u8 ((qv:Int)%256)] 5)) 0 1 (some ⟨wo.heap.size,0,none⟩) 2 ((zgs qv).map U8):=by
     rw[←HP.out];exact zaw wo.drew wo.heap.size rfl _ _ 2 1 rfl
    have bQ:Ext wo (wo.drew.alloc (.cells #[.int .u8 (bits BinOp.or IntKind.u8 192 ((qv:Int)/256)),.int .u8 ((qv:Int)%256)] 5)):=(Z5 wo).drew.alloc _
    go_wp2_with(first
     |(at_builtin
       refine zad _ rfl (.tmp 50) (.tmp 57) _ rfl w.heap.size 5 i0 _ 1 1 Tryz.underlying110 aH aF aC ax rfl (by omega) A3 X.length c3 (X.map U8) rfl (fo.ext bQ) 0 _ 2 2 ((zgs qv).map U8) rfl eM (zf6 _) (by omega) (by omega) (Z2 hI.kc.1 bQ.size) ?_
       intro A4 c4 W2 bS cY fg _)
     |fail)
    go_ret2
    rw[qM.out];refine⟨A4,c4,by rw[Z6];rfl,?_,(fR.ext bQ).keptO (fo.ext bQ) cY,(hI.blw.trans (bQ.mono (Z2 ak hI.kc.1))).trans (fg.mono ak),(hI.kc.trans (KeptC.ext bQ)).grown (fo.ext bQ) (Z4 _) cY⟩
    rw[Z6,List.map_append];exact bS
   ·have bT:qs=false→zb6 T1 nk=none:=fun e=>by
     rw[←Hq.out];have h2:=iQ.out
     rw[e]at h2;rcases q with _|q
     ·rfl
     ·cases h2
    by_cases dW:known=true∧qs=false∧X.length≤16383
    ·have kg:=Z7 (show zbs known nk X.length T1=T1++[(nk,X.length)]by
      unfold zbs;rw[if_pos ⟨dW.1,bT dW.2.1,dW.2.2⟩])
     obtain⟨rfl,rfl,uN⟩:=dW
     have uO:(X.length:Int)≤16383:=by omega
     have HA:=Z7 (zFu lo tp T1 nk X.length wo.drew (fR.ext cO) (by omega) uN (bT rfl))
     go_wp2_with fail;refine HA.out.mono ?_;rintro e W1 ⟨rfl,jd,dX,eD⟩;have bm:=(fo.ext cO).keptC eD (zwn fo fR)
     go_wp2_with(first
      |(at_builtin
        refine zbh _ rfl (.tmp 83) (.tmp 87) _ _ rfl w.heap.size 5 i0 Tryz.underlying110 Tryz.underlying9 aH aF aC ax A3 X.length c3 (X.map U8) rfl bm (List.take (k+1+b.toNat - k) (List.drop k n)) rfl (by rw[cN.out];have:=ny.out;omega) (Z2 (hI.kc.1) (Z2 cO.size eD.1)) ?_
        intro A4 c4 W2 bS cY fg;rw[cN.out]at bS ⊢)
      |fail)
     go_roundw
     case rel=>exact⟨k+(1+b.toNat),c4,X++lab,A4,rfl,rfl,by rw[Z6],by go_num,zjy hI eC.out kT.out h0 (fun h=>hc ⟨by first|rfl|(rw[←iQ.out,Hq.out];exact h.1),h.2⟩) dE.out cH de kg.out jd ((cO.mono (Z2 ak hI.kc.1)).trans dX) ((KeptC.ext cO).trans eD) bm bS cY fg ak⟩
     case measure=>simp[intOf];omega
    ·have kg:=Z7 (show zbs known nk X.length T1=T1 by
      unfold zbs;rw[if_neg fun h=>dW ⟨h.1,?_,h.2.2⟩]
      have h1:=Hq.out;have h2:=iQ.out
      rw[←h1]at h;rw[←h2,h.2.1];rfl)
     obtain⟨W1,kh⟩:∃W1:World,W1=wo.drew:=⟨_,rfl⟩
     rw[←kh]at cO ⊢;have jd:TabAt W1 lo tp T1:=fR.ext cO
     have dX:Below lo W1 W1:=Below.refl _ _
     have eD:KeptC tp W1 W1:=KeptC.refl _ _
     have bm:=fo.ext cO
     clear kh gZ;rcases qs with _|_
     ·rcases known with _|_
      ·go_wp2_with(first
        |(at_builtin
          refine zbh _ rfl (.tmp 83) (.tmp 87) _ _ rfl w.heap.size 5 i0 Tryz.underlying110 Tryz.underlying9 aH aF aC ax A3 X.length c3 (X.map U8) rfl bm (List.take (k+1+b.toNat - k) (List.drop k n)) rfl (by rw[cN.out];have:=ny.out;omega) (Z2 (hI.kc.1) (Z2 cO.size eD.1)) ?_
          intro A4 c4 W2 bS cY fg;rw[cN.out]at bS ⊢)
        |fail)
       go_roundw
       case rel=>exact⟨k+(1+b.toNat),c4,X++lab,A4,rfl,rfl,by rw[Z6],by go_num,zjy hI eC.out kT.out h0 (fun h=>hc ⟨by first|rfl|(rw[←iQ.out,Hq.out];exact h.1),h.2⟩) dE.out cH de kg.out jd ((cO.mono (Z2 ak hI.kc.1)).trans dX) ((KeptC.ext cO).trans eD) bm bS cY fg ak⟩
       case measure=>simp[intOf];omega
      ·have uO:¬((X.length:Int)≤16383):=fun h=>dW ⟨rfl,rfl,by omega⟩
       go_wp2_with(first
        |(at_builtin
          refine zbh _ rfl (.tmp 83) (.tmp 87) _ _ rfl w.heap.size 5 i0 Tryz.underlying110 Tryz.underlying9 aH aF aC ax A3 X.length c3 (X.map U8) rfl bm (List.take (k+1+b.toNat - k) (List.drop k n)) rfl (by rw[cN.out];have:=ny.out;omega) (Z2 (hI.kc.1) (Z2 cO.size eD.1)) ?_
          intro A4 c4 W2 bS cY fg;rw[cN.out]at bS ⊢)
        |fail)
       go_roundw
       case rel=>exact⟨k+(1+b.toNat),c4,X++lab,A4,rfl,rfl,by rw[Z6],by go_num,zjy hI eC.out kT.out h0 (fun h=>hc ⟨by first|rfl|(rw[←iQ.out,Hq.out];exact h.1),h.2⟩) dE.out cH de kg.out jd ((cO.mono (Z2 ak hI.kc.1)).trans dX) ((KeptC.ext cO).trans eD) bm bS cY fg ak⟩
       case measure=>simp[intOf];omega
     ·rcases cmp with _|_
      ·rcases known with _|_
       ·go_wp2_with(first
         |(at_builtin
           refine zbh _ rfl (.tmp 83) (.tmp 87) _ _ rfl w.heap.size 5 i0 Tryz.underlying110 Tryz.underlying9 aH aF aC ax A3 X.length c3 (X.map U8) rfl bm (List.take (k+1+b.toNat - k) (List.drop k n)) rfl (by rw[cN.out];have:=ny.out;omega) (Z2 (hI.kc.1) (Z2 cO.size eD.1)) ?_
           intro A4 c4 W2 bS cY fg;rw[cN.out]at bS ⊢)
         |fail)
        go_roundw
        case rel=>exact⟨k+(1+b.toNat),c4,X++lab,A4,rfl,rfl,by rw[Z6],by go_num,zjy hI eC.out kT.out h0 (fun h=>hc ⟨by first|rfl|(rw[←iQ.out,Hq.out];exact h.1),h.2⟩) dE.out cH de kg.out jd ((cO.mono (Z2 ak hI.kc.1)).trans dX) ((KeptC.ext cO).trans eD) bm bS cY fg ak⟩
        case measure=>simp[intOf];omega
       ·go_wp2_with(first
         |(at_builtin
           refine zbh _ rfl (.tmp 83) (.tmp 87) _ _ rfl w.heap.size 5 i0 Tryz.underlying110 Tryz.underlying9 aH aF aC ax A3 X.length c3 (X.map U8) rfl bm (List.take (k+1+b.toNat - k) (List.drop k n)) rfl (by rw[cN.out];have:=ny.out;omega) (Z2 (hI.kc.1) (Z2 cO.size eD.1)) ?_
           intro A4 c4 W2 bS cY fg;rw[cN.out]at bS ⊢)
         |fail)
        go_roundw
        case rel=>exact⟨k+(1+b.toNat),c4,X++lab,A4,rfl,rfl,by rw[Z6],by go_num,zjy hI eC.out kT.out h0 (fun h=>hc ⟨by first|rfl|(rw[←iQ.out,Hq.out];exact h.1),h.2⟩) dE.out cH de kg.out jd ((cO.mono (Z2 ak hI.kc.1)).trans dX) ((KeptC.ext cO).trans eD) bm bS cY fg ak⟩
        case measure=>simp[intOf];omega
      ·exact absurd ⟨rfl,rfl⟩ hc
theorem zyw {c:Chk} {msg:List UInt8} {pos:Nat} (h:(zaa c msg pos).2=0) (hn:(zaa c msg pos).1.nm=true):may (zaa c msg pos).1.text=true:=by
 by_cases h1:c.kind=1
 ·rw[zDx h1]at h hn ⊢;split at h
  ·rename_i h2;exact absurd h h2
  ·rename_i h2;rw[if_neg h2];exact zni (Decidable.not_not.1 h2)
 ·exfalso;unfold zaa at hn;split at hn
  ·split at hn<;>cases hn
  ·rename_i e;exact h1 e
  ·split at hn<;>cases hn
  ·cases hn
theorem zpk:∀(cs:List Chk) (d:List UInt8) (pos:Nat),(zab cs d pos).2=0→∀p∈(zab cs d pos).1,p.nm=true→may p.text=true
 |[],d,pos,h,p,hp,_=>by
  unfold zab at hp;split at hp<;>cases hp
 |c::cs,d,pos,h,p,hp,hn=>by
  unfold zab at h hp;split at h
  ·rename_i h1;rw[if_pos h1]at hp;cases hp
  ·rename_i h1;rw[if_neg h1]at hp;split at h
   ·rename_i h2;rw[if_pos h2]at hp;cases hp
   ·rename_i h2;rw[if_neg h2]at hp;rcases List.mem_cons.1 hp with rfl|hp
    ·exact zyw (Decidable.not_not.1 h1) hn
    ·exact zpk cs d _ (Decidable.not_not.1 h2) p hp hn
theorem zrb {k:Int} {d:List UInt8} (h:rmay k d=true) {p:Pc} (hp:p∈partsOf k d) (hn:p.nm=true):may p.text=true:=by
 obtain⟨h1,h2,h3⟩:=zvn h
 have:(zab (checksOf k) d 0).1=partsOf k d:=by rw[h2]
 exact zpk (checksOf k) d 0 (by rw[h2]) p (by rw[this];exact hp) hn
theorem zyc (kind:Int) (w:World):Calls Tryz.prog 216 #[.int .u16 kind] w fun e w'=>e=.returned (.bool (cmpOf kind))∧w=w':=by
 by_cases h2:kind=2
 ·subst h2;go_enter Tryz.func216,Tryz.ntmps216;go_wp2_with fail;go_ret;exact⟨rfl,rfl⟩
 by_cases h5:kind=5
 ·subst h5;go_enter Tryz.func216,Tryz.ntmps216;go_wp2_with fail;go_ret;exact⟨rfl,rfl⟩
 by_cases h6:kind=6
 ·subst h6;go_enter Tryz.func216,Tryz.ntmps216;go_wp2_with fail;go_ret;exact⟨rfl,rfl⟩
 by_cases dq:kind=12
 ·subst dq;go_enter Tryz.func216,Tryz.ntmps216;go_wp2_with fail;go_ret;exact⟨rfl,rfl⟩
 by_cases eO:kind=15
 ·subst eO;go_enter Tryz.func216,Tryz.ntmps216;go_wp2_with fail;go_ret;exact⟨rfl,rfl⟩
 have hc:cmpOf kind=false:=by unfold cmpOf;simp[h2,h5,h6,dq,eO]
 rw[hc];have e2:(kind==2)=false:=beq_eq_false_iff_ne.2 h2
 have e5:(kind==5)=false:=beq_eq_false_iff_ne.2 h5
 have e6:(kind==6)=false:=beq_eq_false_iff_ne.2 h6
 have e12:(kind==12)=false:=beq_eq_false_iff_ne.2 dq
 have e15:(kind==15)=false:=beq_eq_false_iff_ne.2 eO
 go_enter Tryz.func216,Tryz.ntmps216;go_wp2_with fail;go_ret;exact⟨rfl,rfl⟩
structure RwInv (w w1:World) (tp lo:Nat) (cmp:Bool) (pcs:List Pc) (R:List UInt8×Tab) (base k:Nat) (X:List UInt8) (A:Option Addr) (c:Nat) (wr:World):Prop where
 bd:X.length≤base+k*(1048576+255)
 own:Own wr w1.heap.size 5 1 A X.length c (X.map U8)
 tab:∃T1,TabAt wr lo tp T1∧(X++(zay cmp X.length ((pcs.drop k).map pcT) T1).1,(zay cmp X.length ((pcs.drop k).map pcT) T1).2)=R
 blw:Below lo w wr
 kc:KeptC tp w wr
 kc1:KeptC tp w1 wr
theorem zva (lo tp lo':Nat) (T:Tab) (A:Option Addr) (c:Nat) (l data:List UInt8) (kind:Int) (w:World) (hg:Laid w) (ht:TabAt w lo tp T) (ha:Rd w lo' 1 A l.length (l.map U8)) (hl:l.length≤1048576) (hd:data.length≤1048576) (hm:rmay kind data=true):
 Calls Tryz.prog 158 #[.slice A l.length c,.pointer (some ⟨tp,0,none⟩),.int .u16 kind,S data] w (zsh tp lo (l++(zdo l.length kind data T).1,(zdo l.length kind data T).2) w):=by
 have Hs:=Z7 (zh1 kind data w hg hd)
 have aB:=zhw kind data
 have HM:=Z7 (fun p hp=>@zrb kind data hm p hp)
 unfold zh9 at Hs;rw[show(zbk kind data).isSome=true from hm]at Hs
 have ab:=ht.lt
 have ak:lo≤w.heap.size:=by have:=ht.1;omega
 have HC:=Z7 (fun W=>zyc kind W)
 unfold zdo;rw[zFi];generalize partsOf kind data=pcs at*;generalize cmpOf kind=cmp at*;obtain⟨R,hR⟩:∃R,R=(l++(zay cmp l.length (pcs.map pcT) T).1,(zay cmp l.length (pcs.map pcT) T).2):=⟨_,rfl⟩
 rw[←hR];have HR:=Z7 hR
 clear hR;obtain⟨i0,aH,aF,aC,ax⟩:=info_parts zfa
 go_enter Tryz.func158,Tryz.ntmps158;go_wp2_with(first
  |(go_at_call 79;refine Hs.out.mono ?_;rintro e w1 ⟨v,rfl,⟨B,d,rfl,ag⟩,ae⟩)
  |(refine wpList_make_own _ rfl _ _ _ rfl w1.heap.size 5 i0 _ 1 Tryz.underlying110 aH aF aC _ _ _ (l.length+data.length) rfl rfl (by go_num) (by rw[ax];omega) (by unfold maxLen;omega) (Z4 _) ?_
    intro w2 aI ci;have ah:=zj4 ci)
  |(at_builtin
    refine zad _ rfl (.tmp 34) (.tmp 35) _ rfl w1.heap.size 5 i0 _ 1 1 Tryz.underlying110 aH aF aC ax rfl (by omega) (some ⟨w1.heap.size,0,none⟩) 0 (l.length+data.length) [] rfl aI lo' A l.length c (l.map U8) rfl (ha.ext (ae.trans ah)) (zf6 _) (by omega) (by omega) ah.size ?_
    intro A2 c2 w3 cR dQ j6 _;rw[Nat.zero_add,List.nil_append]at cR;rw[Nat.zero_add];have ao:Ext w1 w3:=ah.then j6 (Z4 _))
  |(go_at_call 216;refine(HC.out _).mono ?_;rintro e w' ⟨rfl,rfl⟩)
  |fail)
 have qN:Ext w w3:=ae.trans ao
 have qO:=fun(h:TabAt w lo tp T)=>(show(Value.slice B pcs.length d).ownBlock≠some tp from fun e=>by have:=(ag.blk tp e).1;omega)
 have qO:=qO ht
 go_loopw [8,9,12,15,16,17,41] (fun s8 s9 s12 _ _ _ s41 wr=>∃(k c:Nat) (X:List UInt8) (A:Option Addr),s8=.slice none 0 0∧s9=.int .i64 0∧s12=.slice A X.length c∧s41=.int .i64 k∧k≤pcs.length∧RwInv w w1 tp lo cmp pcs R l.length k X A c wr) (fun _ _ _ _ _ _ s41 _=>pcs.length - (intOf s41).toNat)
 case atStart=>exact⟨0,c2,l,A2,rfl,rfl,rfl,rfl,Nat.zero_le _,by omega,cR,⟨T,ht.ext qN,by rw[HR.out,List.drop_zero]⟩,qN.mono ak,KeptC.ext qN,KeptC.ext ao⟩
 case round=>
  obtain⟨k,c3,X,A3,rfl,rfl,rfl,rfl,hk,hI⟩:=hrel
  obtain⟨wo,rfl⟩:∃wo:World,wo=wr:=⟨_,rfl⟩
  obtain⟨T1,fR,dh⟩:=hI.tab
  have ay:=(ag.keptC hI.kc1 qO).rd
  have fo:=hI.own
  have hX:=hI.bd
  have qi:=aB.1
  by_cases ab:k<pcs.length
  ·have hp:pcs[k]? =some pcs[k]:=Z3 ab
   have lk:=aB.2 pcs[k] (List.getElem_mem ab)
   have je:=HM.out pcs[k] (List.getElem_mem ab)
   rw[List.drop_eq_getElem_cons ab]at dh;generalize pcs[k]=p at*;obtain⟨b,off,rfl,_,az,hc⟩:=ay.2 (by omega)
   obtain⟨h0,iD,h2⟩:=zhi (lo:=0) (n:=0) hc k p hp
   obtain⟨pt,pn,px⟩:=p
   dsimp only at*;have bD:X.length≤8000000:=by
    have:k*(1048576+255)≤3*(1048576+255):=Nat.mul_le_mul (by omega) (by omega)
    omega
   have bQ:Ext wo (wo.alloc (.cells #[S pt,.bool pn,.int .i64 px] 242)):=(Z5 _).alloc _
   clear hc hp ay;rcases pn with _|_
   ·have HX:=Z7 (show((X++pt)++(zay cmp (X++pt).length ((pcs.drop (k+1)).map pcT) T1).1,(zay cmp (X++pt).length ((pcs.drop (k+1)).map pcT) T1).2)=R by
     rw[←dh];show _=(X++(zay cmp X.length ((pt,false)::(pcs.drop (k+1)).map pcT) T1).1,_)
     simp only[zay,List.map_cons,pcT];rw[if_neg (by simp),Z6,List.append_assoc])
    clear dh;go_wp2_with(first
     |(at_builtin
       refine zbh _ rfl (.tmp 48) (.tmp 50) _ _ rfl w1.heap.size 5 i0 Tryz.underlying110 Tryz.underlying9 aH aF aC ax A3 X.length c3 (X.map U8) rfl (fo.ext bQ) pt rfl (by omega) (Z2 hI.kc1.1 bQ.size) ?_
       intro A5 c5 w5 ai bq aG)
     |fail)
    go_roundw
    case rel=>
     refine⟨k+1,c5,X++pt,A5,rfl,rfl,by rw[Z6],by go_num,by omega,?_,by rw[Z6,List.map_append];exact ai,⟨T1,(fR.ext bQ).keptO (fo.ext bQ) bq,HX.out⟩,(hI.blw.trans (bQ.mono (Z2 ak hI.kc.1))).trans (aG.mono (Z2 ak ae.size)),(hI.kc.trans (KeptC.ext bQ)).grown (fo.ext bQ) ae.size bq,(hI.kc1.trans (KeptC.ext bQ)).grown (fo.ext bQ) (Z4 _) bq⟩
     rw[Z6,Nat.add_mul];omega
    case measure=>simp[intOf];omega
   ·have nC:=je rfl
    have HP:=Z7 (zwz lo tp w1.heap.size T1 A3 c3 X pt cmp cmp (wo.alloc (.cells #[S pt,.bool true,.int .i64 px] 242)) (fR.ext bQ) (fo.ext bQ).rd (by omega) nC)
    have HX:=Z7 (show((X++(putN cmp cmp X.length pt T1).1)++(zay cmp (X++(putN cmp cmp X.length pt T1).1).length ((pcs.drop (k+1)).map pcT) (putN cmp cmp X.length pt T1).2).1,(zay cmp (X++(putN cmp cmp X.length pt T1).1).length ((pcs.drop (k+1)).map pcT) (putN cmp cmp X.length pt T1).2).2)=R by
     rw[←dh];show _=(X++(zay cmp X.length ((pt,true)::(pcs.drop (k+1)).map pcT) T1).1,_)
     simp only[zay,List.map_cons,pcT];rw[if_pos (by simp),Z6,List.append_assoc])
    have bi:=zoa cmp cmp (pt.length+1) X.length pt T1 (by omega) (zhe nC)
    have C9:=zek nC
    have Fj:(putN cmp cmp X.length pt T1).1.length≤255:=by unfold putN;omega
    generalize putN cmp cmp X.length pt T1=Q at*;clear dh bi;go_wp2_with(first
     |(go_at_call 156;refine HP.out.mono ?_;rintro e w5 ⟨A5,c5,rfl,ai,jG,nL,mS⟩)
     |fail)
    go_roundw
    case rel=>
     refine⟨k+1,c5,X++Q.1,A5,rfl,rfl,by rw[Z6],by go_num,by omega,?_,ai.lower (Z2 hI.kc1.1 bQ.size),⟨Q.2,jG,HX.out⟩,(hI.blw.trans (bQ.mono (Z2 ak hI.kc.1))).trans nL,(hI.kc.trans (KeptC.ext bQ)).trans mS,(hI.kc1.trans (KeptC.ext bQ)).trans mS⟩
     rw[Z6,Nat.add_mul];omega
    case measure=>simp[intOf];omega
  ·have e1:k=pcs.length:=by omega
   subst e1;rw[List.drop_length]at dh;have HX:=Z7 (show(X,T1)=R by rw[←dh];simp[zay])
   clear dh;go_wp2_with fail
   go_ret2
   rw[←HX.out];exact⟨A3,c3,rfl,fo.lower ae.size,fR,hI.blw,hI.kc⟩
def zsg (fz:Nat×Nat) (n:Nat):Prop:=∀j,j<n→¬(fz.1≤j∧j<fz.2)
def OwnZ (w:World) (lo:Nat) (A:Option Addr) (n c:Nat) (xs:List Value):Prop:=
 xs.length=n∧((A=none∧n=0∧c=0)∨∃g cur fz,A=some ⟨g,0,none⟩∧lo≤g∧w.heap[g]? =some (.cells cur 5 fz)∧zsg fz cur.size∧n≤c∧c≤maxLen∧cur.size=c∧cur.toList.take n=xs)
theorem Own.z {w:World} {lo n c:Nat} {A:Option Addr} {xs:List Value} (h:Own w lo 5 1 A n c xs):OwnZ w lo A n c xs:=by
 refine⟨by rw[h.1,Nat.mul_one],?_⟩
 rcases h.2 with⟨h1,h2⟩|⟨g,cap,cur,h1,hg,hh,h4,h5,h6,h7⟩
 ·injection h1 with h1 _ h3;exact .inl ⟨h1,h2,h3⟩
 ·injection h1 with h1 _ h3
  subst h3;rw[Nat.mul_one]at h6 h7;exact .inr ⟨g,cur,(0,0),h1,hg,hh,fun j _ hx=>by simp at hx,h4,h5,h6,h7⟩
section
variable {w w' : World} {lo n c : Nat} {A : Option Addr} {xs : List Value}
theorem OwnZ.cap (h:OwnZ w lo A n c xs):n≤c∧c≤maxLen:=by
 rcases h.2 with⟨_,h2,h3⟩|⟨g,cur,fz,_,_,_,_,h4,h5,_⟩
 ·unfold maxLen;omega
 ·exact⟨h4,h5⟩
theorem OwnZ.rd (h:OwnZ w lo A n c xs):Rd w lo 1 A n xs:=by
 refine⟨by rw[h.1,Nat.mul_one],fun hn=>?_⟩
 rcases h.2 with⟨_,h2,_⟩|⟨g,cur,fz,h1,hg,hh,_,h4,h5,h6,h7⟩
 ·omega
 ·refine⟨g,0,h1,hg,(Z9 hh),fun j u hu=>?_⟩
  have hj:j<n:=by have:=(List.getElem?_eq_some_iff.1 hu).1;rw[h.1]at this;exact this
  rw[←h7,List.getElem?_take_of_lt hj]at hu;simp[World.cell?,hh,←hu]
theorem OwnZ.ext (h:OwnZ w lo A n c xs) (hE:Ext w w'):OwnZ w' lo A n c xs:=by
 refine⟨h.1,?_⟩;rcases h.2 with h1|⟨g,cur,fz,h1,hg,hh,h4⟩
 ·exact .inl h1
 ·exact .inr ⟨g,cur,fz,h1,hg,(hE.block g (Z9 hh)).trans hh,h4⟩
theorem OwnZ.lower {lo':Nat} (h:OwnZ w lo A n c xs) (hl:lo'≤lo):OwnZ w lo' A n c xs:=by
 refine⟨h.1,?_⟩;rcases h.2 with h1|⟨g,cur,fz,h1,hg,hh,h4⟩
 ·exact .inl h1
 ·exact .inr ⟨g,cur,fz,h1,by omega,hh,h4⟩
theorem OwnZ.row (h:OwnZ w lo A n c xs):∀k,(Value.slice A n c).ownBlock=some k→∃cur fz,w.heap[k]? =some (.cells cur 5 fz):=by
 intro k hk;rcases h.2 with⟨rfl,_⟩|⟨g,cur,fz,rfl,hg,hh,_⟩
 ·cases hk
 ·injection hk with hk
  exact⟨cur,fz,by rw[←hk];exact hh⟩
theorem OwnZ.blk (h:OwnZ w lo A n c xs):∀k,(Value.slice A n c).ownBlock=some k→lo≤k∧k<w.heap.size:=by
 intro k hk;rcases h.2 with⟨rfl,_⟩|⟨g,cur,fz,rfl,hg,hh,_⟩
 ·cases hk
 ·injection hk with hk
  have:=(Z9 hh)
  dsimp only at hk;omega
theorem OwnZ.keptC {tp:Nat} (h:OwnZ w lo A n c xs) (hk:KeptC tp w w') (au:(Value.slice A n c).ownBlock≠some tp):OwnZ w' lo A n c xs:=by
 refine⟨h.1,?_⟩;rcases h.2 with h1|⟨g,cur,fz,h1,hg,hh,h4⟩
 ·exact .inl h1
 ·refine .inr ⟨g,cur,fz,h1,hg,hk.2 g _ _ _ (fun e=>au ?_) hh,h4⟩
  rw[h1,e];rfl
theorem OwnZ.set_ne (h:OwnZ w lo A n c xs) {p:Addr} (hp:(Value.slice A n c).ownBlock≠some p.block) (u:Value):OwnZ (w.setCell p u) lo A n c xs:=by
 refine⟨h.1,?_⟩;rcases h.2 with h1|⟨g,cur,fz,h1,hg,hh,h4⟩
 ·exact .inl h1
 ·exact .inr ⟨g,cur,fz,h1,hg,(Below.heap_setCell w p u g (fun e=>hp (by rw[h1,←e];rfl))).trans hh,h4⟩
theorem OwnZ.addr (h:OwnZ w lo A n c xs) (hn:0<n):∃g,A=some ⟨g,0,none⟩∧lo≤g∧g<w.heap.size:=by
 rcases h.2 with⟨_,h2,_⟩|⟨g,cur,fz,h1,hg,hh,_⟩
 ·omega
 ·exact⟨g,h1,hg,(Z9 hh)⟩
end
theorem ztn {w:World} {lo lo' tp:Nat} {n c:Nat} {A:Option Addr} {xs:List Value} {T:Tab} (h:OwnZ w lo A n c xs) (ht:TabAt w lo' tp T):(Value.slice A n c).ownBlock≠some tp:=fun e=>by
 obtain⟨cur,fz,hc⟩:=h.row tp e
 obtain⟨_,_,⟨h1,_⟩|⟨b,h1,_⟩⟩:=ht
 ·rw[h1]at hc;injection hc with hc;injection hc with _ hc;cases hc
 ·rw[h1]at hc;injection hc with hc;injection hc with _ hc;cases hc
theorem TabAt.keptZ {w w':World} {lo lo' tp n c:Nat} {A:Option Addr} {xs:List Value} {T:Tab} (ht:TabAt w lo' tp T) (h:OwnZ w lo A n c xs) (hg:w.grownBy w' (Value.slice A n c).ownBlock):TabAt w' lo' tp T:=
 ht.kept hg fun k hk=>⟨fun e=>by subst e;exact ztn h ht hk,by obtain⟨cur,fz,hc⟩:=h.row k hk;exact⟨_,_,_,hc⟩⟩
theorem zBo {P:Program} (g o:Nat) (t:TypeId) (fz:Nat×Nat):∀(vs:List Value) (i:Nat) (cur:Array Value) (w:World),w.heap[g]? =some (.cells cur t fz)→zsg fz cur.size→o+i+vs.length≤cur.size→(∀v∈vs,v.oneCell'=true)→
 (storeCells ⟨g,o,none⟩ vs i).run P w=.ok () (w.setRow g (cur.toList.take (o+i)++vs++cur.toList.drop (o+i+vs.length)).toArray):=by
 intro vs
 induction vs with
 |nil=>
  intro i cur w hg _ _ _;simp only[storeCells,List.append_nil,List.length_nil,Nat.add_zero,List.take_append_drop,Array.toArray_toList];rw[setRow_self w g cur t fz hg];rfl
 |cons v rest ih=>
  intro i cur w hg hz hl h1;rw[List.length_cons]at hl;have hi:o+i<cur.size:=by omega
  have uP:w.cell? ⟨g,o+i,none⟩=some cur[o+i]:=by simp[World.cell?,hg,hi]
  have zG:w.frozen? ⟨g,o+i,none⟩=false:=by
   have:=hz (o+i) hi
   obtain⟨a,b⟩:=fz
   simp only[World.frozen?,hg,Bool.and_eq_false_iff,decide_eq_false_iff_not];dsimp only at this;omega
  have aK:(store ((⟨g,o,none⟩:Addr).add i) v).run P w=.ok () (w.setRow g (cur.setIfInBounds (o+i) v)):=by
   rw[zdv,run_store P w _ v _ (h1 v (by simp)),uP]
   simp[zG,setCell_eq_setRow w g (o+i) cur t fz v hg]
  have h2:=ih (i+1) (cur.setIfInBounds (o+i) v) (w.setRow g (cur.setIfInBounds (o+i) v)) (setRow_heap w g cur _ t _ hg) (by simpa using hz) (by simp;omega) (fun x hx=>h1 x (by simp[hx]))
  simp only[storeCells,Sem.run_bind,aK,Result.andThen_ok,h2,setRow_setRow];congr 3;have e:=list_seg_step cur.toList (o+i) v rest (by rw[Array.length_toList];omega)
  simpa[Array.toList_setIfInBounds,Nat.add_assoc]using e
theorem zDy {P:Program} (w:World) (lo:Nat) (t ty:TypeId) (i:TypeInfo) (ht:P.underlying t=some (.slice 5)) (hi:P.info? 5=some i) (hz:i.zero=some (.int .u8 0))
 (a8:i.size=1) (bw:i.bytes=1) (A:Option Addr) (n c:Nat) (xs:List Value) (ag:OwnZ w lo A n c xs)
 (l2:Nat) (B:Option Addr) (m d:Nat) (news:List Value) (hr:Rd w l2 1 B m news) (h1:∀u∈news,u.oneCell'=true) (aY:n+m≤140737488355328) (br:lo≤w.heap.size):
 ∃A' c' w',(Builtin.append_ #[t,t] ty #[.slice A n c,.slice B m d]).run P w=.ok (.slice A' (n+m) c') w'∧OwnZ w' lo A' (n+m) c' (xs++news)∧w.grownBy w' (Value.slice A n c).ownBlock∧Below lo w w':=by
 have cH:∀w',w.grownBy w' (Value.slice A n c).ownBlock→Below lo w w':=fun w' hg=>(Below.refl _ _).grown hg br (fun k hk=>(ag.blk k hk).1)
 have fi:news.length=m:=by have:=hr.1;rw[Nat.mul_one]at this;exact this
 rcases ag.2 with⟨rfl,rfl,rfl⟩|⟨g,cur,fz,rfl,hg,hh,hhz,qf,iU,eK,htk⟩
 ·have Fk:xs=[]:=List.eq_nil_of_length_eq_zero ag.1
  subst Fk;obtain⟨A',c',w',r1,r2,r3,r4,_⟩:=zmz (P:=P) w lo t ty 5 i (.int .u8 0) 1 1 ht hi hz a8 bw rfl (by omega) none 0 0 [] (Own.nil w lo _ _) l2 B m d news hr h1 (by omega) (by omega) br
  exact⟨A',c',w',r1,r2.z,r3,r4⟩
 ·by_cases hm:m=0
  ·subst hm;have hn:news=[]:=List.eq_nil_of_length_eq_zero fi
   subst hn;refine⟨_,_,w,?_,by simpa using ag,World.grownBy.refl w _,cH w (World.grownBy.refl w _)⟩
   cases B<;>simp[Builtin.append_,run_underlying ht,sizeOf,typeInfo,hi,Builtin.lenOf,Builtin.firstCells,qf,storeCells,loadCells,loadCellsFrom]
  ·obtain⟨b,off,rfl,_,_,hc⟩:=hr.2 (by omega)
   have fL:∀j u,news[j]? =some u→w.cell? ((⟨b,off,none⟩:Addr).add j)=some u:=fun j u hu=>by rw[zdv];exact hc j u hu
   by_cases gM:n+m≤c
   ·have hf:=run_firstCells_some (P:=P) w 1 m ⟨b,off,none⟩ m d news (by rw[fi,Nat.mul_one]) fL
    have aK:=zBo (P:=P) g n 5 fz news 0 cur w hh hhz (by omega) h1
    simp only[Nat.add_zero]at aK;have dQ:w.grownBy (w.setRow g (cur.toList.take n++news++cur.toList.drop (n+news.length)).toArray) (Value.slice (some ⟨g,0,none⟩) n c).ownBlock:=⟨rfl,rfl,rfl,by simp,fun k _ hk=>setRow_other w g k _ (fun e=>hk (by simp[Value.ownBlock,e]))⟩
    refine⟨_,_,_,by simp[Builtin.append_,run_underlying ht,sizeOf,typeInfo,hi,a8,Builtin.lenOf,gM,hf,Addr.add_lit,aK],⟨by rw[Z6,ag.1,fi],.inr ⟨g,_,fz,rfl,hg,setRow_heap w g cur _ _ _ hh,?_,gM,iU,?_,?_⟩⟩,dQ,cH _ dQ⟩
    ·intro j hj;refine hhz j ?_;simp only[List.size_toArray,Z6,List.length_take,List.length_drop,Array.length_toList]at hj;omega
    ·simp only[List.size_toArray,Z6,List.length_take,List.length_drop,Array.length_toList];omega
    ·rw[htk,←fi,←ag.1,←Z6];exact List.take_left
   ·have lh:∀j u,xs[j]? =some u→w.cell? ((⟨g,0,none⟩:Addr).add j)=some u:=fun j u hu=>by
     rw[zdv];have hj:j<n:=by have:=(List.getElem?_eq_some_iff.1 hu).1;rw[ag.1]at this;exact this
     rw[←htk,List.getElem?_take_of_lt hj]at hu;simp[World.cell?,hh,←hu]
    have hr:=run_append_grow (P:=P) w t ty 5 i (.int .u8 0) ht hi hz ⟨g,0,none⟩ n c xs (by rw[a8,ag.1,Nat.mul_one]) lh ⟨b,off,none⟩ m d news (by rw[a8,fi,Nat.mul_one]) fL (by omega) (by omega) (by rw[bw];exact growslice_fits (by omega) (by omega))
    have cS:=grownCap_ge w (n+m) c 5
    have zH:grownCap w (n+m) c 5≤maxLen:=grownCap_le_maxLen w (n+m) c _ (by unfold maxLen;omega)
    refine⟨_,_,_,hr,⟨by rw[Z6,ag.1,fi],.inr ⟨w.heap.size,_,(0,0),rfl,br,heap_alloc_new w.drew _,fun j _ hx=>by simp at hx,cS,zH,?_,?_⟩⟩,⟨rfl,rfl,rfl,by simp,fun k hk _=>(by exact heap_alloc_old w.drew _ hk)⟩,cH _ ⟨rfl,rfl,rfl,by simp,fun k hk _=>(by exact heap_alloc_old w.drew _ hk)⟩⟩
    ·simp only[Array.size_append,List.size_toArray,size_zeroCells,ag.1,fi];show n+m+(_ - (n+m))*1=_
     omega
    ·simp only[Array.toList_append,List.append_assoc];rw[←List.append_assoc,←fi,←ag.1,←Z6];exact List.take_left
section
variable {P : Program}
theorem zvw {ops:Array Oper} {rest:List Oper} {o:Oper} {a:Act} {w:World} {Q:Exit→Act→World→Prop} (gC:o.guard=none) (s x:Operand) (t:TypeId)
 (ho:o.op=.call {callee:=.builtin .append,args:= #[s,x],argTypes:= #[t,t]})
 (lo:Nat) (i:TypeInfo) (ht:P.underlying t=some (.slice 5)) (hi:P.info? 5=some i) (hz:i.zero=some (.int .u8 0)) (a8:i.size=1) (bw:i.bytes=1)
 (A:Option Addr) (n c:Nat) (xs:List Value) (hs:a.eval s=.slice A n c) (ag:OwnZ w lo A n c xs)
 (l2:Nat) (B:Option Addr) (m d:Nat) (news:List Value) (hx:a.eval x=.slice B m d) (hr:Rd w l2 1 B m news) (h1:∀u∈news,u.oneCell'=true)
 (aY:n+m≤140737488355328) (br:lo≤w.heap.size)
 (h:∀A' c' w',OwnZ w' lo A' (n+m) c' (xs++news)→w.grownBy w' (Value.slice A n c).ownBlock→Below lo w w'→wpList P ops Q rest (a.put o.dst (.slice A' (n+m) c')) w'):wpList P ops Q (o::rest) a w:=
 wpList_plain gC fun K hK=>by
  obtain⟨A',c',w',cC,h2,h3,h4⟩:=zDy (P:=P) w lo t o.type i ht hi hz a8 bw A n c xs ag l2 B m d news hr h1 aY br
  unfold Oper.wp execOp;simp only[ho,resolve,invoke,builtin,Sem.run_bind,Sem.run_pure,Result.andThen_ok,List.map_toArray,List.map_cons,List.map_nil,hs,hx,cC];exact hK _ _ (h A' c' w' h2 h3 h4)
theorem zBg (w:World) (t ty elem:TypeId) (g o dLen dCap:Nat) (a:Addr) (sLen sCap:Nat) (cur:Array Value) (T:TypeId) (fz:Nat×Nat) (cs:List Value)
 (hu:P.underlying t=some (.slice elem)) (hs:(P.info? elem).map (·.size)=some 1) (hg:w.heap[g]? =some (.cells cur T fz)) (hz:zsg fz cur.size) (hn:cs.length=Nat.min sLen dLen)
 (lC:∀j v,cs[j]? =some v→w.cell? (a.add j)=some v) (gN:o+cs.length≤cur.size) (h1:∀v∈cs,v.oneCell'=true):
 (Builtin.copy_ #[t,t] ty #[.slice (some ⟨g,o,none⟩) dLen dCap,.slice (some a) sLen sCap]).run P w=
  .ok (goInt cs.length) (w.setRow g (cur.toList.take o++cs++cur.toList.drop (o+cs.length)).toArray):=by
 have hl:=run_loadCells_list (P:=P) w a cs lC
 have aK:=zBo (P:=P) g o T fz cs 0 cur w hg hz (by simpa using gN) h1
 cases hq:P.info? elem with
 |none=>simp[hq]at hs
 |some i=>
  have hi:i.size=1:=by simpa[hq]using hs
  simp[Builtin.copy_,run_underlying hu,Builtin.lenOf,Builtin.firstCells,sizeOf,typeInfo,hq,hi,←hn,hl,aK]
end
theorem zr9 (w:World) (lo:Nat) (l:List UInt8) (ak:lo≤w.heap.size) (hl:l.length≤1073741824):
 ∃(C:Array Value) (cap:Nat),(convert 9 110 (S l)).run Tryz.prog w=.ok (.slice (some ⟨w.heap.size,0,none⟩) l.length cap) (w.drew.alloc (.cells C 5 (C.size,C.size+1)))∧
  OwnZ (w.drew.alloc (.cells C 5 (C.size,C.size+1))) lo (some ⟨w.heap.size,0,none⟩) l.length cap (l.map U8):=by
 have cS:=grownCap_ge w l.length 0 5
 have eK:(bytesRow ⟨l.toArray⟩ (grownCap w l.length 0 5)).size=grownCap w l.length 0 5:=by
  simp only[bytesRow,Array.size_append,Array.size_map,Array.size_replicate];show l.toArray.size+(_ - l.toArray.size)=_
  rw[List.size_toArray];omega
 refine⟨_,_,run_bytes_of_string (P:=Tryz.prog) w 9 110 5 ⟨l.toArray⟩ Tryz.underlying9 Tryz.underlying110 Tryz.underlying5,by rw[List.length_map],.inr ⟨w.heap.size,_,_,rfl,ak,heap_alloc_new w.drew _,fun j hj hx=>?_,cS,grownCap_le_maxLen w _ 0 _ (by rw[zcy];unfold maxLen;omega),eK,?_⟩⟩
 ·have:=hx.1
  dsimp only at this;omega
 ·simp only[bytesRow,Array.toList_append,Array.toList_map];show((l.map fun b=>Value.int .u8 b.toNat)++_).take l.length=_
  rw[List.take_left' (by rw[List.length_map])]
abbrev zjs (e:Nat):Value:=.iface 94 (.agg #[.int .i64 (e:Int)])
abbrev zgb (e:Nat):Ending:=.panicked [{v:=zjs e,recovered:=false}]
theorem zdb (w:World):Calls Tryz.prog 72 #[.int .i64 0] w fun e w'=>e=.returned (.tuple #[])∧w=w':=by
 go_enter Tryz.func72,Tryz.ntmps72;go_wp2_with fail
 go_end0
 exact⟨rfl,rfl⟩
theorem zcs (k:Nat) (h:k≠0) (w:World):Calls Tryz.prog 72 #[.int .i64 (k:Int)] w fun e w'=>e=zgb k∧w=w':=by
 have h1:((k:Int)==0)=false:=zbm h
 go_enter Tryz.func72,Tryz.ntmps72;go_wp2_with fail;exact⟨rfl,rfl,rfl⟩
def KeptY (w w':World):Prop:=w.heap.size≤w'.heap.size∧∀(g:Nat) (cs:Array Value) (t:TypeId) (m:Nat×Nat),t≠5→t≠173→t≠259→w.heap[g]? =some (.cells cs t m)→w'.heap[g]? =some (.cells cs t m)
theorem KeptY.refl (w:World):KeptY w w:=⟨Z4 _,fun _ _ _ _ _ _ _ h=>h⟩
theorem KeptY.trans {a b c:World} (h:KeptY a b) (k:KeptY b c):KeptY a c:=⟨Z2 h.1 k.1,fun g cs t m h1 h2 h3 hg=>k.2 g cs t m h1 h2 h3 (h.2 g cs t m h1 h2 h3 hg)⟩
theorem KeptY.ext {w w':World} (h:Ext w w'):KeptY w w':=⟨h.size,fun g cs t m _ _ _ hg=>(h.block g (Z9 hg)).trans hg⟩
theorem KeptY.keptC {w w':World} {lo tp:Nat} {T:Tab} (h:KeptC tp w w') (ht:TabAt w lo tp T):KeptY w w':=⟨h.1,fun g cs t m _ _ h3 hg=>h.2 g cs t m (fun e=>by
 subst e;obtain⟨_,_,⟨h4,_⟩|⟨b,h4,_⟩⟩:=ht
 ·rw[h4]at hg;injection hg with hg;injection hg with _ hg _;exact h3 hg.symm
 ·rw[h4]at hg;injection hg with hg;injection hg with _ hg _;exact h3 hg.symm) hg⟩
theorem KeptY.grown {w w':World} {lo n c:Nat} {A:Option Addr} {xs:List Value} (ho:OwnZ w lo A n c xs) (hg:w.grownBy w' (Value.slice A n c).ownBlock):KeptY w w':=⟨hg.size,fun g cs t m h1 _ _ hh=>(hg.block g (Z9 hh) (fun e=>by
 obtain⟨cur,fz,hc⟩:=ho.row g e.symm
 rw[hh]at hc;injection hc with hc;injection hc with _ hc _;exact h1 hc)).trans hh⟩
theorem KeptY.set {w:World} {g:Nat} {cs:Array Value} {m:Nat×Nat} (hh:w.heap[g]? =some (.cells cs 173 m)) (j:Nat) (u:Value):KeptY w (w.setCell ⟨g,j,none⟩ u):=⟨by simp,fun b cs' t m' _ h2 _ hb=>(Below.heap_setCell w ⟨g,j,none⟩ u b (fun e=>by
 dsimp only at e;subst e;rw[hh]at hb;injection hb with hb;injection hb with _ hb _;exact h2 hb.symm)).trans hb⟩
def WrAt (w:World) (lo g:Nat) (B:List UInt8) (T:Tab):Prop:=∃(A:Option Addr) (c tp:Nat),w.heap[g]? =some (.cells #[.slice A B.length c,.pointer (some ⟨tp,0,none⟩)] 173)∧lo≤g∧OwnZ w lo A B.length c (B.map U8)∧TabAt w lo tp T
def WrPost (lo g:Nat) (R:List UInt8×Tab) (w:World) (e:Ending) (w':World):Prop:=
 ((R.1.length≤65535∧e=.returned (.tuple #[])∧WrAt w' lo g R.1 R.2∧KeptY w w')∨(65535<R.1.length∧e=zgb 5))∧Below lo w w'
theorem zto {w:World} {lo g n c:Nat} {A:Option Addr} {xs:List Value} {cs:Array Value} {m:Nat×Nat} {t:TypeId} (h:OwnZ w lo A n c xs) (hg:w.heap[g]? =some (.cells cs t m)) (ht:t≠5):(Value.slice A n c).ownBlock≠some g:=fun e=>by
 obtain⟨cur,fz,hc⟩:=h.row g e
 rw[hg]at hc;injection hc with hc;injection hc with _ hc _;exact ht hc
theorem TabAt.set {w:World} {lo tp g:Nat} {T:Tab} {cs:Array Value} {t:TypeId} {m:Nat×Nat} (h:TabAt w lo tp T) (hg:w.heap[g]? =some (.cells cs t m)) (ht:t≠259) (j:Nat) (u:Value):TabAt (w.setCell ⟨g,j,none⟩ u) lo tp T:=by
 have au:∀{cs':Array Value},w.heap[tp]? =some (.cells cs' 259)→tp≠g:=fun hc e=>by
  subst e;rw[hg]at hc;injection hc with hc;injection hc with _ hc _;exact ht hc
 obtain⟨h1,h2,h|⟨b,h,h3,h4⟩⟩:=h
 ·exact⟨h1,h2,.inl ⟨(Below.heap_setCell w ⟨g,j,none⟩ u tp (au h.1)).trans h.1,h.2⟩⟩
 ·refine⟨h1,h2,.inr ⟨b,(Below.heap_setCell w ⟨g,j,none⟩ u tp (au h)).trans h,h3,h4.set (fun e=>?_) u⟩⟩
  dsimp only at e;subst e;obtain⟨es,clock,hb,_⟩:=h4
  rw[hb]at hg;cases hg
theorem za2 {w:World} {g:Nat} {cs:Array Value} {t:TypeId} {m:Nat×Nat} (h:w.heap[g]? =some (.cells cs t m)) (i:Nat) (u:Value):(w.setCell ⟨g,i,none⟩ u).heap[g]? =some (.cells (cs.setIfInBounds i u) t m):=by
 simp[World.setCell,Array.getElem?_modify,h]
theorem ziy (lo g lo':Nat) (B x:List UInt8) (T:Tab) (D:Option Addr) (d:Nat) (w:World) (h:WrAt w lo g B T) (hx:Rd w lo' 1 D x.length (x.map U8)) (hB:B.length≤65535):
 Calls Tryz.prog 94 #[.pointer (some ⟨g,0,none⟩),.slice D x.length d] w (WrPost lo g (B++x,T) w):=by
 obtain⟨A,c,tp,hh,ak,ho,ht⟩:=h
 have c0:w.cell? ⟨g,0,none⟩=some (.slice A B.length c):=by simp[World.cell?,hh]
 have hz:=(Z9 hh)
 obtain⟨i0,aH,aF,aC,ax⟩:=info_parts zfa
 by_cases aq:65535<B.length+x.length
 ·have h1:(65535:Int) - (B.length:Int)<(x.length:Int):=by omega
  have HM:=Z7 (zcs 5 (by omega) w)
  go_enter Tryz.func94,Tryz.ntmps94;go_wp2_with fail;refine HM.out.mono ?_;rintro e w1 ⟨rfl,rfl⟩;go_wp2_with fail;exact⟨rfl,.inr ⟨by rw[Z6];exact aq,rfl⟩,Below.refl _ _⟩
 ·have h1:¬((65535:Int) - (B.length:Int)<(x.length:Int)):=by omega
  go_enter Tryz.func94,Tryz.ntmps94;go_wp2_with(first
   |(at_builtin
     refine zvw rfl (.tmp 18) (.tmp 19) _ rfl lo i0 Tryz.underlying110 aH aF aC ax A B.length c (B.map U8) rfl ho lo' D x.length d (x.map U8) rfl hx (zf6 _) (by omega) (by omega) ?_
     intro A1 c1 w1 bm bh cQ;have mT:=(bh.block g hz (fun e=>zto ho hh (by decide) e.symm)).trans hh
     have k1:w1.cell? ⟨g,0,none⟩=some (.slice A B.length c):=by simp[World.cell?,mT]
     have f1:w1.frozen? ⟨g,0,none⟩=false:=by simp[World.frozen?,mT])
   |fail)
  go_end0
  refine⟨.inl ⟨by rw[Z6];omega,rfl,⟨A1,c1,tp,by rw[Z6];exact za2 mT 0 _,ak,?_,(ht.keptZ ho bh).set mT (by decide) 0 _⟩,(KeptY.grown ho bh).trans (KeptY.set mT 0 _)⟩,cQ.setCell ak _⟩
  rw[Z6,List.map_append];exact bm.set_ne (zto bm mT (by decide)) _
theorem Rd.take {w:World} {lo n m:Nat} {A:Option Addr} {xs:List Value} (h:Rd w lo 1 A n xs) (hm:m≤n):Rd w lo 1 A m (xs.take m):=by
 refine⟨by rw[List.length_take,h.1];omega,fun hp=>?_⟩
 obtain⟨b,off,e,h1,h2,h3⟩:=h.2 (by omega)
 refine⟨b,off,e,h1,h2,fun j u hu=>h3 j u ?_⟩
 rw[List.getElem?_take]at hu;split at hu
 ·exact hu
 ·cases hu
theorem zx0 (lo g:Nat) (B:List UInt8) (T:Tab) (w:World) (h:WrAt w lo g B T) (hB:B.length≤65535):
 Calls Tryz.prog 155 #[.pointer (some ⟨g,0,none⟩)] w fun e w'=>∃A c,e=.returned (.slice A (min B.length 16384) c)∧Rd w' lo 1 A (min B.length 16384) ((B.take (min B.length 16384)).map U8)∧Ext w w':=by
 obtain⟨A,c,tp,hh,ak,ho,ht⟩:=h
 have c0:w.cell? ⟨g,0,none⟩=some (.slice A B.length c):=by simp[World.cell?,hh]
 have bo:=ho.cap
 have hr:=ho.rd.take (m:=min B.length 16384) (by omega)
 rw[←List.map_take]at hr;have fS:((min B.length 16384:Nat):Int)=min (B.length:Int) 16384:=by omega
 go_enter Tryz.func155,Tryz.ntmps155;go_wp2_with fail;go_region;go_wp2_with fail;go_ret;have e:(min (B.length:Int) 16384).toNat=min B.length 16384:=by omega
 refine⟨A,c,?_,hr.ext (Z5 w).drew,(Z5 w).drew⟩;show Ending.returned (Value.slice A (min (B.length:Int) 16384).toNat c)=_
 rw[e]
theorem zwv {w:World} {lo m k:Nat} {A:Option Addr} {xs ys:List Value} (h:Rd w lo 1 A (m+k) (xs++ys)) (hx:xs.length=m):Rd w lo 1 (A.map fun x=>x.add m) k ys:=by
 have hl:ys.length=k:=by have:=h.1;rw[Z6]at this;omega
 refine⟨by omega,fun hk=>?_⟩
 obtain⟨b,off,rfl,h1,h2,h3⟩:=h.2 (by omega)
 refine⟨b,off+m,by rw[Option.map_some,zdv],h1,h2,fun j u hu=>?_⟩
 have:=h3 (m+j) u (by rw[List.getElem?_append_right (by omega),show m+j - xs.length=j by omega];exact hu)
 rw[←Nat.add_assoc]at this;exact this
theorem zDh (cmp known:Bool) (pos:Nat) {n:List UInt8} (t:Tab) (h:may n=true):0<(putN cmp known pos n t).1.length:=by
 rcases n with _|⟨b,r⟩
 ·rw[zFa]at h;cases h
 ·unfold putN;simp only[ze1];split
  ·simp
  ·split
   ·simp[zo8]
   ·simp
theorem WrAt.tab {w w1 w2:World} {lo g tp:Nat} {B:List UInt8} {T':Tab} {A:Option Addr} {c:Nat} (hh:w.heap[g]? =some (.cells #[.slice A B.length c,.pointer (some ⟨tp,0,none⟩)] 173)) (ak:lo≤g) (ho:OwnZ w lo A B.length c (B.map U8))
 {T:Tab} (ht:TabAt w lo tp T) (hE:Ext w w1) (ki:TabAt w2 lo tp T') (hK:KeptC tp w1 w2):WrAt w2 lo g B T':=by
 have hz:=(Z9 hh)
 have mT:=(hE.block g hz).trans hh
 refine⟨A,c,tp,hK.2 g _ _ _ (fun e=>?_) mT,ak,(ho.ext hE).keptC hK (ztn ho ht),ki⟩
 subst e;obtain⟨_,_,⟨h4,_⟩|⟨b,h4,_⟩⟩:=ht
 ·rw[h4]at hh;cases hh
 ·rw[h4]at hh;cases hh
theorem zqm (lo g:Nat) (B n:List UInt8) (T:Tab) (w:World) (h:WrAt w lo g B T) (hB:B.length≤65535) (hn:may n=true):
 Calls Tryz.prog 93 #[.pointer (some ⟨g,0,none⟩),S n] w (WrPost lo g (B++(putN true true B.length n T).1,(putN true true B.length n T).2) w):=by
 have HB:=Z7 (zx0 lo g B T w h hB)
 go_enter Tryz.func93,Tryz.ntmps93;go_wp2_with fail;refine HB.out.mono ?_;rintro e w1 ⟨A1,c1,rfl,kb,ae⟩;obtain⟨A,c,tp,hh,ak,ho,ht⟩:=h
 have hz:=(Z9 hh)
 have mT:=(ae.block g hz).trans hh
 have k1:w1.cell? ⟨g,1,none⟩=some (.pointer (some ⟨tp,0,none⟩)):=by simp[World.cell?,mT]
 have hq:=zB0 true true B.length n T
 have cH:(B.take (min B.length 16384)).length=min B.length 16384:=by rw[List.length_take];omega
 have uQ:Rd w1 lo 1 A1 (B.take (min B.length 16384)).length ((B.take (min B.length 16384)).map U8):=by rw[cH];exact kb
 have HP:=Z7 (zwz lo tp lo T A1 c1 (B.take (min B.length 16384)) n true true w1 (ht.ext ae) uQ (by rw[cH];omega) hn)
 rw[cH,hq]at HP;have bi:=zgt true true B.length T hn
 have qB:=zDh true true B.length T hn
 clear hq uQ kb;generalize putN true true B.length n T=Q at*;obtain⟨m,hm⟩:∃m,m=min B.length 16384:=⟨_,rfl⟩
 rw[←hm]at HP cH;have JM:m≤B.length:=by omega
 have nH:m≤16384:=by omega
 rw[←hm];generalize zI:B.take m=Bm at*;clear hm zI;go_wp2_with fail;refine HP.out.mono ?_;rintro e w2 ⟨A2,c2,rfl,aI,ki,dX,eD⟩;dsimp only at aI;have iK:(Bm++Q.1).length=m+Q.1.length:=by rw[Z6,cH]
 have eM:Rd w2 w1.heap.size 1 (A2.map fun x=>x.add m) Q.1.length (Q.1.map U8):=by
  have:=aI.rd
  rw[iK,List.map_append]at this;exact zwv this (by rw[List.length_map,cH])
 have iU:¬c2=m:=by have:=aI.cap.1;omega
 have HM:=Z7 (zdb w2)
 have HA:=Z7 (ziy lo g w1.heap.size B Q.1 Q.2 (A2.map fun x=>x.add m) (c2 - m) w2 (WrAt.tab hh ak ho ht ae ki eD) eM hB)
 have ge:lo≤w.heap.size:=by omega
 have Da:Below lo w w2:=(ae.mono ge).trans dX
 have Fl:KeptY w w2:=(KeptY.ext ae).trans (KeptY.keptC eD (ht.ext ae))
 clear aI eM;dsimp only;rw[iK];clear iK;go_wp2_with fail;refine HM.out.mono ?_;rintro e w3 ⟨rfl,rfl⟩;go_wp2_with fail;refine HA.out.mono ?_;rintro e w4 ⟨⟨h1,rfl,h2,h3⟩|⟨h1,rfl⟩,iP⟩
 ·go_wp2_with fail
  go_end0
  exact⟨.inl ⟨h1,rfl,h2,Fl.trans h3⟩,Da.trans iP⟩
 ·go_wp2_with fail;exact⟨rfl,.inr ⟨h1,rfl⟩,Da.trans iP⟩
theorem WrAt.ext {w w':World} {lo g:Nat} {B:List UInt8} {T:Tab} (h:WrAt w lo g B T) (hE:Ext w w'):WrAt w' lo g B T:=by
 obtain⟨A,c,tp,hh,ak,ho,ht⟩:=h
 exact⟨A,c,tp,(hE.block g (Z9 hh)).trans hh,ak,ho.ext hE,ht.ext hE⟩
theorem WrAt.lo {w:World} {lo g:Nat} {B:List UInt8} {T:Tab} (h:WrAt w lo g B T):lo≤g∧g<w.heap.size:=by
 obtain⟨A,c,tp,hh,ak,ho,ht⟩:=h
 exact⟨ak,(Z9 hh)⟩
theorem WrPost.after {lo g:Nat} {R:List UInt8×Tab} {w w1:World} {e:Ending} {w':World} (h:WrPost lo g R w1 e w') (hE:Ext w w1) (ak:lo≤w.heap.size):WrPost lo g R w e w':=by
 obtain⟨h1,h2⟩:=h
 refine⟨?_,(hE.mono ak).trans h2⟩;rcases h1 with⟨a,b,c,d⟩|h
 ·exact .inl ⟨a,b,c,(KeptY.ext hE).trans d⟩
 ·exact .inr h
theorem zup (lo g:Nat) (B:List UInt8) (T:Tab) (kind cls ttl:Int) (w:World) (h:WrAt w lo g B T) (hB:B.length≤65535) (hk:0≤kind∧kind≤65535) (hc:0≤cls∧cls≤65535) (ht:0≤ttl∧ttl≤4294967295):
 Calls Tryz.prog 98 #[.pointer (some ⟨g,0,none⟩),.int .u16 kind,.int .u16 cls,.int .u32 ttl] w (WrPost lo g (B++(two kind.toNat++two cls.toNat++zdp ttl.toNat),T) w):=by
 have ak:=h.lo
 have H1:=Z7 (zdw 0 none 0 [] kind w (Rd.nil _ _ _ _) (by simp) hk)
 go_enter Tryz.func98,Tryz.ntmps98;go_wp2_with fail;refine H1.out.mono ?_;rintro e w1 ⟨A1,c1,rfl,bm,ae⟩;have H2:=Z7 (zdw w.heap.size A1 c1 ([]++two kind.toNat) cls w1 bm.rd (by simp[zah]) hc)
 go_wp2_with fail;refine H2.out.mono ?_;rintro e w2 ⟨A2,c2,rfl,aI,ah⟩;have H3:=Z7 (zCn w1.heap.size A2 c2 ([]++two kind.toNat++two cls.toNat) ttl w2 aI.rd (by simp[zah]) ht)
 go_wp2_with fail;refine H3.out.mono ?_;rintro e w3 ⟨A3,c3,rfl,cR,ao⟩;rw[List.nil_append]at cR;have hE:Ext w w3:=(ae.trans ah).trans ao
 have H4:=Z7 (ziy lo g w2.heap.size B (two kind.toNat++two cls.toNat++zdp ttl.toNat) T A3 c3 w3 (h.ext hE) cR.rd hB)
 rw[List.nil_append];go_wp2_with fail;refine H4.out.mono ?_;rintro e w4 h4;have h5:=h4.after hE (by omega)
 obtain⟨⟨h1,rfl,h2,h3⟩|⟨h1,rfl⟩,iP⟩:=h5
 ·go_wp2_with fail
  go_end0
  exact⟨.inl ⟨h1,rfl,h2,h3⟩,iP⟩
 ·go_wp2_with fail;exact⟨rfl,.inr ⟨h1,rfl⟩,iP⟩
section
variable {P : Program}
theorem zBn {ops:Array Oper} {o:Oper} {a:Act} {w:World} {K:Act→World→Prop} {Q:Exit→Act→World→Prop} {E:Prop} (gC:o.guard=none) (d s:Operand) (t:TypeId)
 (ho:o.op=.call {callee:=.builtin .copy,args:= #[d,s],argTypes:= #[t,t]}) (e:TypeId) (ht:P.underlying t=some (.slice e)) (bH:(P.info? e).map (·.size)=some 1)
 (g off dl dc:Nat) (hd:a.eval d=.slice (some ⟨g,off,none⟩) dl dc) (sa:Addr) (sl sc:Nat) (Fm:a.eval s=.slice (some sa) sl sc) (cur:Array Value) (T:TypeId) (fz:Nat×Nat) (cs:List Value)
 (hg:w.heap[g]? =some (.cells cur T fz)) (aW:zsg fz cur.size) (hn:cs.length=Nat.min sl dl) (lC:∀j v,cs[j]? =some v→w.cell? (sa.add j)=some v) (gN:off+cs.length≤cur.size) (h1:∀v∈cs,v.oneCell'=true)
 (h:K (a.put o.dst (goInt cs.length)) (w.setRow g (cur.toList.take off++cs++cur.toList.drop (off+cs.length)).toArray)):
 if Region.wanted o (yielded ops a.tmps)=true then Oper.wp P o a w K Q else E:=by
 have hw:Region.wanted o (yielded ops a.tmps)=true:=by simp[Region.wanted,gC]
 rw[if_pos hw];have cC:=zBg (P:=P) w t o.type e g off dl dc sa sl sc cur T fz cs ht bH hg aW hn lC gN h1
 unfold Oper.wp execOp;simp only[ho,resolve,invoke,builtin,Sem.run_bind,Sem.run_pure,Result.andThen_ok,List.map_toArray,List.map_cons,List.map_nil,hd,Fm,cC];exact h
end
theorem zak (w:World) (g:Nat) (cs:Array Value):w.grownBy (w.setRow g cs) (some g):=by
 refine⟨rfl,rfl,rfl,by simp[World.setRow],fun k hk au=>?_⟩
 show(w.heap.modify g _)[k]? =_
 rw[Array.getElem?_modify,if_neg (fun e=>au (by rw[e]))]
theorem zE3 {α:Type} (cur:List α) (o n:Nat) (cs:List α) (h:o+cs.length≤n) (hn:n≤cur.length):(cur.take o++cs++cur.drop (o+cs.length)).take n=(cur.take n).take o++cs++(cur.take n).drop (o+cs.length):=by
 rw[List.take_take,Nat.min_eq_left (by omega),List.drop_take]
 rw[List.take_append,List.take_of_length_le (by simp only[Z6,List.length_take];omega)]
 congr 1;simp only[Z6,List.length_take];rw[Nat.min_eq_left (by omega)]
theorem zFg {w:World} {lo n c:Nat} {A:Option Addr} {xs cs:List Value} {o:Nat} (h:OwnZ w lo A n c xs) (hc:0<cs.length) (ho:o+cs.length≤n):
 ∃g cur fz,A=some ⟨g,0,none⟩∧w.heap[g]? =some (.cells cur 5 fz)∧zsg fz cur.size∧o+cs.length≤cur.size∧OwnZ (w.setRow g (cur.toList.take o++cs++cur.toList.drop (o+cs.length)).toArray) lo A n c (xs.take o++cs++xs.drop (o+cs.length))∧
  w.grownBy (w.setRow g (cur.toList.take o++cs++cur.toList.drop (o+cs.length)).toArray) (Value.slice A n c).ownBlock:=by
 rcases h.2 with⟨_,h2,_⟩|⟨g,cur,fz,rfl,hg,hh,hz,h4,h5,h6,h7⟩
 ·omega
 ·have hx:=h.1
  refine⟨g,cur,fz,rfl,hh,hz,by omega,⟨?_,.inr ⟨g,_,fz,rfl,hg,setRow_heap w g cur _ _ _ hh,?_,h4,h5,?_,?_⟩⟩,zak w g _⟩
  ·simp only[Z6,List.length_take,List.length_drop];omega
  ·intro j hj;refine hz j ?_;simp only[List.size_toArray,Z6,List.length_take,List.length_drop,Array.length_toList]at hj;omega
  ·simp only[List.size_toArray,Z6,List.length_take,List.length_drop,Array.length_toList];omega
  ·rw[zE3 _ _ _ _ ho (by rw[Array.length_toList];omega),h7]
def zdi (r:RecD):List UInt8:=two r.typ.toNat++two r.cls.toNat++zdp r.ttl.toNat
theorem zB6 {B:List UInt8} {T:Tab} {r:RecD} {l:List RecD} {R:List UInt8×Tab} (h:(B++(zaj zb9 B.length (r::l) T).1,(zaj zb9 B.length (r::l) T).2)=R):
 ∃N D:List UInt8×Tab,N=putN true true B.length r.name T∧D=zdo ((B++N.1++zdi r).length+2) r.typ r.data N.2∧
  (B++N.1++zdi r++two D.1.length++D.1++(zaj zb9 (B++N.1++zdi r++two D.1.length++D.1).length l D.2).1,(zaj zb9 (B++N.1++zdi r++two D.1.length++D.1).length l D.2).2)=R:=by
 refine⟨_,_,rfl,rfl,?_⟩;have hp:(B++(putN true true B.length r.name T).1++zdi r).length+2=B.length+(putN true true B.length r.name T).1.length+10:=by
  simp only[zdi,Z6,zah,zgp]
 rw[hp];have e:zb9 B.length r T=((putN true true B.length r.name T).1++zdi r++two (zdo (B.length+(putN true true B.length r.name T).1.length+10) r.typ r.data (putN true true B.length r.name T).2).1.length++(zdo (B.length+(putN true true B.length r.name T).1.length+10) r.typ r.data (putN true true B.length r.name T).2).1,
  (zdo (B.length+(putN true true B.length r.name T).1.length+10) r.typ r.data (putN true true B.length r.name T).2).2):=rfl
 rw[←h];simp only[zaj];rw[e];dsimp only;have hl:∀x y z u:List UInt8,(B++x++y++z++u).length=B.length+(x++y++z++u).length:=fun x y z u=>by simp only[Z6];omega
 rw[hl];simp only[List.append_assoc]
structure WsInv (w:World) (lo g:Nat) (l:List RecD) (R:List UInt8×Tab) (k:Nat) (B:List UInt8) (T:Tab) (wr:World):Prop where
 kl:k≤l.length
 wat:WrAt wr lo g B T
 bl:B.length≤65535
 eq:(B++(zaj zb9 B.length (l.drop k) T).1,(zaj zb9 B.length (l.drop k) T).2)=R
 blw:Below lo w wr
 ky:KeptY w wr
theorem zE9 {w wo W w8 w9 w':World} {lo g:Nat} {l:List RecD} {R N D:List UInt8×Tab} {k Tl gA c8:Nat} {B B3 S4:List UInt8} {T:Tab} {tp8:Nat} {r:RecD}
 (nM:(B++N.1++zdi r++two D.1.length++D.1++(zaj zb9 (B++N.1++zdi r++two D.1.length++D.1).length (l.drop (k+1)) D.2).1,(zaj zb9 (B++N.1++zdi r++two D.1.length++D.1).length (l.drop (k+1)) D.2).2)=R∨(B3++two D.1.length++D.1++(zaj zb9 (B3++two D.1.length++D.1).length (l.drop (k+1)) D.2).1,(zaj zb9 (B3++two D.1.length++D.1).length (l.drop (k+1)) D.2).2)=R)
 (hI:WsInv w lo g l R k B T wo) (ga:Ext wo W) (nN:KeptY W w8) (nO:Below lo w w8) (jH:Ext w8 w9) (JN:Tl≤65535) (kP:Tl=S4.length+D.1.length) (nP:Tl=(S4++D.1).length) (mU:S4=B3++[0,0]) (ab:k<l.length) (qP:lo≤g)
 (uR:w'.heap[g]? =some (.cells #[.slice (some ⟨gA,0,none⟩) Tl c8,.pointer (some ⟨tp8,0,none⟩)] 173)) (ia:OwnZ w9 lo (some ⟨gA,0,none⟩) Tl c8 ((S4++D.1).map U8))
 (ag:OwnZ w' lo (some ⟨gA,0,none⟩) Tl c8 (((S4++D.1).map U8).take B3.length++(two D.1.length).map U8++((S4++D.1).map U8).drop (B3.length+((two D.1.length).map U8).length)))
 (qQ:w9.grownBy w' (Value.slice (some ⟨gA,0,none⟩) Tl c8).ownBlock) (ht:TabAt w' lo tp8 D.2) (iR:B3=B++N.1++zdi r):
 WsInv w lo g l R (k+1) (B3++two D.1.length++D.1) D.2 w':=by
 have hR:(B3++two D.1.length++D.1++(zaj zb9 (B3++two D.1.length++D.1).length (l.drop (k+1)) D.2).1,(zaj zb9 (B3++two D.1.length++D.1).length (l.drop (k+1)) D.2).2)=R:=by
  rcases nM with h|h
  ·rw[iR];exact h
  ·exact h
 have hx:((S4++D.1).map U8).take B3.length++(two D.1.length).map U8++((S4++D.1).map U8).drop (B3.length+((two D.1.length).map U8).length)=(B3++two D.1.length++D.1).map U8:=by
  rw[mU,List.length_map,zah,List.map_append,List.map_append,List.map_append,List.map_append];have e1:(List.map U8 B3++List.map U8 [0,0]++List.map U8 D.1).take B3.length=List.map U8 B3:=by
   rw[List.append_assoc,List.take_left' (by rw[List.length_map])]
  have e2:(List.map U8 B3++List.map U8 [0,0]++List.map U8 D.1).drop (B3.length+2)=List.map U8 D.1:=by
   rw[List.drop_left' (by rw[Z6,List.length_map];rfl)]
  rw[e1,e2]
 have aq:(B3++two D.1.length++D.1).length=Tl:=by
  rw[kP,mU];simp only[Z6,zah,List.length_cons,List.length_nil]
 have ge:lo≤w8.heap.size:=by
  have:=nO.size
  have h1:=(Z9 uR)
  obtain⟨_,_,_,h2,_⟩:=hI.wat
  have:=hI.wat.lo
  have:=hI.ky.1
  have:=nN.1
  have:=ga.size
  omega
 refine⟨by omega,⟨some ⟨gA,0,none⟩,c8,tp8,by rw[aq];exact uR,qP,by rw[aq,←hx];exact ag,ht⟩,by omega,hR,(nO.trans (jH.mono ge)).grown qQ (Z2 ge jH.size) (fun j hj=>(ia.blk j hj).1),(((hI.ky.trans (KeptY.ext ga)).trans nN).trans (KeptY.ext jH)).trans (KeptY.grown ia qQ)⟩
theorem zlb (w0:World) (lo g:Nat) (B:List UInt8) (T:Tab) (v:Value) (l:List RecD) (w:World) (hg:Laid w0) (h:WrAt w lo g B T) (hB:B.length≤65535) (hv:Recs w0 0 v l) (aD:Ext w0 w) (h0:w0.heap.size≤lo)
 (bB:∀r∈l,zac r=true∧r.wf∧r.data.length≤1048576):
 Calls Tryz.prog 96 #[.pointer (some ⟨g,0,none⟩),v] w (WrPost lo g (B++(zaj zb9 B.length l T).1,(zaj zb9 B.length l T).2) w):=by
 obtain⟨A,c,rfl,lD,iU,ay⟩:=hv
 have Fo:=h.lo
 unfold maxLen at iU;obtain⟨i0,aH,aF,aC,ax⟩:=info_parts zfa
 obtain⟨R,hR⟩:∃R,R=(B++(zaj zb9 B.length l T).1,(zaj zb9 B.length l T).2):=⟨_,rfl⟩
 rw[←hR];have HR:=Z7 hR
 clear hR;go_enter Tryz.func96,Tryz.ntmps96;go_wp2_with fail
 go_loopw [5,6,7,8,9,12] (fun _ _ _ _ _ i wr=>∃(k:Nat) (B:List UInt8) (T:Tab),i=.int .i64 k∧WsInv w lo g l R k B T wr) (fun _ _ _ _ _ i _=>l.length - (intOf i).toNat)
 case atStart=>exact⟨0,B,T,rfl,Nat.zero_le _,h,hB,by rw[HR.out,List.drop_zero],Below.refl _ _,KeptY.refl _⟩
 case round=>
  clear HR;obtain⟨k,B,T,rfl,hI⟩:=hrel
  obtain⟨wo,rfl⟩:∃wo:World,wo=wr:=⟨_,rfl⟩
  have zJ:Ext w0 wo:=aD.then hI.blw h0
  have hB:=hI.bl
  have hW:=hI.wat
  by_cases ab:k<l.length
  ·obtain⟨b,off,rfl,_,az,hc⟩:=(ay.ext zJ).2 (by omega)
   obtain⟨x0,x1,x2,x3,x4⟩:=zfe hc k l[k] (Z3 ab)
   obtain⟨jc,cF,hdl⟩:=bB l[k] (List.getElem_mem ab)
   have dh:=hI.eq
   rw[List.drop_eq_getElem_cons ab]at dh;generalize l[k]=r at*;obtain⟨nm,ty,cl,tt,da⟩:=r
   unfold zac at jc;simp only[Bool.and_eq_true,decide_eq_true_eq]at jc;obtain⟨⟨Fp,eE⟩,gH⟩:=jc
   obtain⟨Fq,mV,pw⟩:=cF
   dsimp only at*;have eC:=Z7 dh
   clear dh hc;have cz:(k:Int)<(l.length:Int):=by omega
   have cW:(0:Int)≤(k:Int):=by omega
   obtain⟨N,D,hN,hD,nM⟩:=zB6 eC.out
   have kj:=Z7 nM
   have HD:=Z7 hD
   have Fr:(zdi ⟨nm,ty,cl,tt,da⟩).length=8:=by simp[zdi,zah,zgp]
   have mW:=Z7 (show(B++N.1).length≤R.1.length∧(B++N.1++zdi ⟨nm,ty,cl,tt,da⟩).length+2≤R.1.length∧(B++N.1++zdi ⟨nm,ty,cl,tt,da⟩).length+2+D.1.length≤R.1.length by
    rw[←nM];simp only[Z6,zah];omega)
   have yd:N.1.length≤255:=by rw[hN];exact zgt true true _ _ eE
   clear nM hD Fr;go_upto_region 3 with fail
   obtain⟨W,nQ⟩:∃W,W=wo.alloc (.cells #[S nm,.int .u16 ty,.int .u16 cl,.int .u32 tt,S da] 99):=⟨_,rfl⟩
   have ga:Ext wo W:=by rw[nQ];exact(Z5 _).alloc _
   have a5:W.heap[wo.heap.size]? =some (.cells #[S nm,.int .u16 ty,.int .u16 cl,.int .u32 tt,S da] 99):=by rw[nQ];exact heap_alloc_new _ _
   rw[←nQ];clear nQ x0 x1 x2 x3 x4;have nR:=Z7 (fun V (hV:KeptY W V)=>hV.2 _ _ _ _ (by decide) (by decide) (by decide) a5)
   have k0:W.cell? ⟨wo.heap.size,0,none⟩=some (S nm):=by simp[World.cell?,a5]
   have HN:=Z7 (zqm lo g B nm T W (hW.ext ga) hB eE)
   rw[←hN]at HN;have jf:lo≤wo.heap.size:=Z2 (by have:=hI.blw.size;omega) (Z4 _)
   clear a5 hN;go_wp2_with fail;refine HN.out.mono ?_;rintro e w2 ⟨⟨l2,rfl,eF,eD⟩|⟨l2,rfl⟩,dX⟩;rotate_left
   ·go_wp2_with fail;exact⟨rfl,.inr ⟨by have:=mW.out.1;omega,rfl⟩,(hI.blw.trans (ga.mono jf)).trans dX⟩
   have uS:KeptY W w2:=eD
   have eU:=nR.out _ uS
   have k1:w2.cell? ⟨wo.heap.size,1,none⟩=some (.int .u16 ty):=by simp[World.cell?,eU]
   have k2:w2.cell? ⟨wo.heap.size,2,none⟩=some (.int .u16 cl):=by simp[World.cell?,eU]
   have k3:w2.cell? ⟨wo.heap.size,3,none⟩=some (.int .u32 tt):=by simp[World.cell?,eU]
   have HF:=Z7 (zup lo g (B++N.1) N.2 ty cl tt w2 eF l2 Fq mV pw)
   clear eU;go_wp2_with fail;refine HF.out.mono ?_;rintro e w3 ⟨⟨l3,rfl,bK,zK⟩|⟨l3,rfl⟩,iR⟩;rotate_left
   ·go_wp2_with fail;exact⟨rfl,.inr ⟨by have:=mW.out.2.1;unfold zdi at this;dsimp only at this;omega,rfl⟩,((hI.blw.trans (ga.mono jf)).trans dX).trans iR⟩
   have zL:KeptY W w3:=uS.trans zK
   have ti:=Z7 (fun(X:World) (hX:WrAt X lo g (B++N.1++zdi ⟨nm,ty,cl,tt,da⟩) N.2) (u:Nat) (hr:Rd X 0 1 (some ⟨u,0,none⟩) 2 ([(0:UInt8),0].map U8))=>ziy lo g 0 _ [0,0] N.2 (some ⟨u,0,none⟩) 2 X hX hr (by exact l3))
   have xU:Rd (w3.alloc (.cells #[.int .u8 0,.int .u8 0] 5)) 0 1 (some ⟨w3.heap.size,0,none⟩) 2 ([(0:UInt8),0].map U8):=zaw w3 w3.heap.size rfl _ _ 2 1 rfl
   have lE:WrAt w3 lo g (B++N.1++zdi ⟨nm,ty,cl,tt,da⟩) N.2:=bK
   clear bK;go_wp2_with fail;refine(ti.out _ (lE.ext ((Z5 _).alloc _)) _ xU).mono ?_;rintro e w4 h4;have h5:=h4.after ((Z5 w3).alloc _) (by have:=lE.lo;omega)
   obtain⟨⟨l4,rfl,bE,zM⟩|⟨l4,rfl⟩,iP⟩:=h5
   rotate_left
   ·go_wp2_with fail;exact⟨rfl,.inr ⟨by have:=mW.out.2.1;rw[Z6]at l4;simp only[List.length_cons,List.length_nil]at l4;omega,rfl⟩,(((hI.blw.trans (ga.mono jf)).trans dX).trans iR).trans iP⟩
   have uT:KeptY W w4:=zL.trans zM
   have qR:Below lo w w4:=(((hI.blw.trans (ga.mono jf)).trans dX).trans iR).trans iP
   dsimp only at l4 bE;have Hz:=Z7 (show B++N.1++zdi ⟨nm,ty,cl,tt,da⟩++[0,0]=(B++N.1++zdi ⟨nm,ty,cl,tt,da⟩)++[0,0]from rfl)
   have zN:=Z7 (show D=zdo (B++N.1++zdi ⟨nm,ty,cl,tt,da⟩++[0,0]).length ty da N.2 by rw[HD.out,List.length_append (bs:=[0,0])];rfl)
   have lF:=Z7 (show(B++N.1++zdi ⟨nm,ty,cl,tt,da⟩++[0,0]).length+D.1.length≤R.1.length by have:=mW.out.2.2;rw[List.length_append (bs:=[0,0])];exact this)
   obtain⟨B3,qS⟩:∃B3,B3=B++N.1++zdi ⟨nm,ty,cl,tt,da⟩:=⟨_,rfl⟩
   have Fs:=Z7 qS
   rw[←qS]at zN lF l4 bE;obtain⟨S4,mU⟩:∃S4,S4=B3++[0,0]:=⟨_,rfl⟩
   rw[←mU]at zN lF l4 bE;have zO:=Z7 mU
   have ko:S4.length=B3.length+2:=by rw[mU,Z6];rfl
   have mX:=Z7 ko
   clear mW HD HN HF ti xU lE eF l2 l3 qS mU ko Hz k0 k1 k2 k3 eC;have uU:=Z7 (fun V (hV:Ext w4 V)=>zx0 lo g S4 N.2 V (bE.ext hV) l4)
   obtain⟨A4,c4,tp,py,zP,bS,uV⟩:=bE
   have fM:=(Z9 py)
   have Db:=Z7 (show ∀V,Ext w4 V→V.cell? ⟨g,0,none⟩=some (.slice A4 S4.length c4)from fun V hV=>(hV.cell (p:=⟨g,0,none⟩) fM).trans (by simp[World.cell?,py]))
   go_upto_region 6 with fail
   go_cut [6,7] (fun s6 s7 wx=>∃(A5:Option Addr) (c5:Nat),s6=.int .i64 S4.length∧s7=.slice A5 (min S4.length 16384) c5∧Rd wx lo 1 A5 (min S4.length 16384) ((S4.take (min S4.length 16384)).map U8)∧Ext w4 wx)
   case first=>
    as_aux_lemma=>
     refine wp_region_noPanic ?_;refine za6 (S:=(fun V=>V.cell? ⟨g,0,none⟩=some (.slice A4 S4.length c4))) (.take 0 (.take 1 (.take 2 (.take 3 (.take 4 (.take 5 (.run 6 (.take 7 (.take 8 (.done)))))))))) (by kernel_rfl) (by kernel_rfl) (fun _ _ _ _ _ h=>h) (Db.out _ ((Z5 w4).drew)) ?_
     repeat((with_reducible refine za7 ?_);first
      |(refine za4 (v:=?_) (by rfl) (by rfl) ?_ ?_;rotate_left;(focus(intro V hV;(try dsimp only at hV);(go_simp<;>with_reducible rfl)));(try simp only[ap]))
      |(refine zaf (by rfl) (by rfl) ?_;(try simp only[ap])))
     refine za5 (by rfl) (fun K hK=>?_)
     go_simp;refine(uU.out _ ((Z5 w4).drew)).mono ?_;rintro e w5 ⟨A5,c5,rfl,uW,am⟩;have jI:Ext w4 w5:=Ext.trans ((Z5 w4).drew) am
     refine hK.out _ _ ?_ ?_
     ·exact Db.out _ jI
     clear hK K
     (try simp only[ap])
     repeat((with_reducible refine za7 ?_);first
      |(refine za4 (v:=?_) (by rfl) (by rfl) ?_ ?_;rotate_left;(focus(intro V hV;(try dsimp only at hV);(go_simp<;>with_reducible rfl)));(try simp only[ap]))
      |(refine zaf (by rfl) (by rfl) ?_;(try simp only[ap])))
     refine zag ?_;refine NoPanic.normal ?_;go_wp2_with fail;go_meet;exact⟨A5,c5,rfl,rfl,uW,jI⟩
   case rest=>
   obtain⟨A5,c5,rfl,rfl,uW,am⟩:=hcut
   obtain⟨w5,rfl⟩:∃w5:World,w5=wc:=⟨_,rfl⟩
   have bv:=nR.out _ uT
   have zQ:g≠tp:=fun e=>by
    subst e;obtain⟨_,_,⟨h4,_⟩|⟨b,h4,_⟩⟩:=uV
    ·rw[h4]at py;cases py
    ·rw[h4]at py;cases py
   have zR:wo.heap.size≠tp:=fun e=>by
    rw[e]at bv;obtain⟨_,_,⟨h4,_⟩|⟨b,h4,_⟩⟩:=uV
    ·rw[h4]at bv;cases bv
    ·rw[h4]at bv;cases bv
   have gG:=(Z9 bv)
   have uX:=Z7 (show ∀V V',Ext w4 V→KeptC tp V V'→V'.cell? ⟨g,1,none⟩=some (.pointer (some ⟨tp,0,none⟩))∧V'.cell? ⟨wo.heap.size,1,none⟩=some (.int .u16 ty)∧V'.cell? ⟨wo.heap.size,4,none⟩=some (S da)from fun V V' hV hK=>by
    have h1:=hK.2 g _ _ _ zQ ((hV.block g fM).trans py)
    have h2:=hK.2 wo.heap.size _ _ _ zR ((hV.block _ gG).trans bv)
    exact⟨by simp[World.cell?,h1],by simp[World.cell?,h2],by simp[World.cell?,h2]⟩)
   have cH:(S4.take (min S4.length 16384)).length=min S4.length 16384:=by rw[List.length_take];omega
   have Ft:lo≤w.heap.size:=by omega
   have zS:Ext w0 w5:=(aD.then qR h0).trans am
   have zT:=Z7 (fun V (hV:Ext w5 V)=>zva lo tp lo N.2 A5 c5 (S4.take (min S4.length 16384)) da ty V (hg.ext (zS.trans hV)) ((uV.ext am).ext hV) (by rw[cH];exact uW.ext hV) (by rw[cH];omega) hdl gH)
   rw[cH,show zdo (min S4.length 16384) ty da N.2=D by rw[zN.out];exact zv8 _ _ _ _]at zT
   obtain⟨m,hm⟩:∃m,m=min S4.length 16384:=⟨_,rfl⟩
   rw[←hm]at zT uW cH;rw[←hm];generalize S4.take m=Sm at*;have JO:m≤16384:=by omega
   have JP:D.1.length≤R.1.length:=by have:=lF.out;omega
   clear bv uW hm;go_upto_region 7 with fail
   go_cut [8,9] (fun s8 s9 wx=>∃(A6:Option Addr) (c6:Nat),s8=.slice A6 (m+D.1.length) c6∧s9=.int .i64 0∧Own wx w5.heap.size 5 1 A6 (Sm++D.1).length c6 ((Sm++D.1).map U8)∧TabAt wx lo tp D.2∧Below lo w5 wx∧KeptC tp w5 wx)
   case first=>
    as_aux_lemma=>
     refine wp_region_noPanic ?_;refine za6 (S:=(fun V=>V.cell? ⟨g,1,none⟩=some (.pointer (some ⟨tp,0,none⟩))∧V.cell? ⟨wo.heap.size,1,none⟩=some (.int .u16 ty)∧V.cell? ⟨wo.heap.size,4,none⟩=some (S da))) (.take 0 (.take 1 (.take 2 (.take 3 (.take 4 (.take 5 (.take 6 (.take 7 (.take 8 (.run 9 (.take 10 (.take 11 (.take 12 (.take 13 (.take 14 (.done)))))))))))))))) (by kernel_rfl) (by kernel_rfl) (fun _ _ _ _ _ h=>h) (uX.out _ _ (am.trans ((Z5 w5).drew)) (KeptC.refl _ _)) ?_
     repeat((with_reducible refine za7 ?_);first
      |(refine za4 (v:=?_) (by rfl) (by rfl) ?_ ?_;rotate_left;(focus(intro V hV;(try dsimp only at hV);(go_simp<;>with_reducible rfl)));(try simp only[ap]))
      |(refine zaf (by rfl) (by rfl) ?_;(try simp only[ap])))
     refine za5 (by rfl) (fun K hK=>?_)
     go_simp;refine(zT.out _ ((Z5 w5).drew)).mono ?_;rintro e w6 ⟨A6,c6,rfl,dw,ye,qT,lG⟩;refine hK.out _ _ ?_ ?_
     ·exact uX.out _ _ (am.trans ((Z5 w5).drew)) lG
     clear hK K
     (try simp only[ap])
     repeat((with_reducible refine za7 ?_);first
      |(refine za4 (v:=?_) (by rfl) (by rfl) ?_ ?_;rotate_left;(focus(intro V hV;(try dsimp only at hV);(go_simp<;>with_reducible rfl)));(try simp only[ap]))
      |(refine zaf (by rfl) (by rfl) ?_;(try simp only[ap])))
     refine zag ?_;refine NoPanic.normal ?_;go_wp2_with fail;go_meet;exact⟨A6,c6,rfl,rfl,dw,ye,(((Z5 w5).drew).mono (by have:=am.size;have:=qR.size;omega)).trans qT,(KeptC.ext ((Z5 w5).drew)).trans lG⟩
   case rest=>
   obtain⟨A6,c6,rfl,rfl,dw,ye,qT,lG⟩:=hcut
   obtain⟨w6,rfl⟩:∃w6:World,w6=wc:=⟨_,rfl⟩
   have iK:(Sm++D.1).length=m+D.1.length:=by rw[Z6,cH]
   have gf:WrAt w6 lo g S4 D.2:=WrAt.tab py zP bS uV am ye lG
   have uY:KeptY W w6:=(uT.trans (KeptY.ext am)).trans (KeptY.keptC lG (uV.ext am))
   have nS:Below lo w w6:=(qR.trans (am.mono (by omega))).trans qT
   have HM:=Z7 (zdb w6)
   have bo:=dw.cap.1
   rw[iK]at bo;have zU:Rd w6 w5.heap.size 1 (A6.map fun x=>x.add m) D.1.length (D.1.map U8):=by
    have:=dw.rd
    rw[iK,List.map_append]at this;exact zwv this (by rw[List.length_map,cH])
   have qU:c6=m→Rd w6 w5.heap.size 1 A6 D.1.length (D.1.map U8):=fun e=>by
    have:D.1=[]:=List.eq_nil_of_length_eq_zero (by omega)
    rw[this];exact Rd.nil _ _ _ _
   clear dw iK;go_upto_region 9 with(first|(go_at_call 72;refine HM.out.mono ?_;rintro e w' ⟨rfl,rfl⟩)|fail)
   have zV:=Z7 (fun(A7:Option Addr) (c7:Nat) (hr:Rd w6 w5.heap.size 1 A7 D.1.length (D.1.map U8))=>ziy lo g w5.heap.size S4 D.1 D.2 A7 c7 w6 gf hr l4)
   go_cut [] (fun wx=>WrAt wx lo g (S4++D.1) D.2∧KeptY W wx∧Below lo w wx∧(S4++D.1).length≤65535)
   case first=>
    as_aux_lemma=>
     by_cases iU:c6=m
     ·have yf:=qU iU
      clear bo zU qU;subst iU;go_wp2_with fail;refine(zV.out _ _ yf).mono ?_;rintro e w7 ⟨⟨l7,rfl,tj,yg⟩|⟨l7,rfl⟩,pz⟩
      ·go_wp2_with fail;go_meet;exact⟨tj,uY.trans yg,nS.trans pz,l7⟩
      ·go_wp2_with fail;exact⟨rfl,.inr ⟨by rw[Z6]at l7;have:=lF.out;omega,rfl⟩,nS.trans pz⟩
     ·go_wp2_with fail;refine(zV.out _ _ zU).mono ?_;rintro e w7 ⟨⟨l7,rfl,tj,yg⟩|⟨l7,rfl⟩,pz⟩
      ·go_wp2_with fail;go_meet;exact⟨tj,uY.trans yg,nS.trans pz,l7⟩
      ·go_wp2_with fail;exact⟨rfl,.inr ⟨by rw[Z6]at l7;have:=lF.out;omega,rfl⟩,nS.trans pz⟩
   case rest=>
   obtain⟨tk,nN,nO,l8⟩:=hcut
   obtain⟨w8,rfl⟩:∃w8:World,w8=wc:=⟨_,rfl⟩
   clear zV zU qU gf ye lG qT HM bo;obtain⟨A8,c8,tp8,uZ,qP,ia,Fu⟩:=tk
   have mU:=zO.out
   have ko:=mX.out
   have pB:=(Z9 uZ)
   have ZZ:=ia.cap
   have kP:(S4++D.1).length=S4.length+D.1.length:=Z6
   have zW:0≤(D.1.length:Int)∧(D.1.length:Int)≤65535:=by rw[kP]at l8;omega
   obtain⟨Tl,nP⟩:∃Tl,Tl=(S4++D.1).length:=⟨_,rfl⟩
   rw[←nP]at uZ ia ZZ kP l8;have jg:=Z7 (show ∀V,Ext w8 V→V.cell? ⟨g,0,none⟩=some (.slice A8 Tl c8)from fun V hV=>(hV.cell (p:=⟨g,0,none⟩) pB).trans (by simp[World.cell?,uZ]))
   obtain⟨gA,rfl,x8,_⟩:=ia.addr (by omega)
   have ka:=Z7 (fun V=>zdw 0 none 0 [] (D.1.length:Int) V (Rd.nil _ _ _ _) (by simp) zW)
   have fP:IntKind.i64.wrap ((S4.length:Int) - 2)=(B3.length:Int):=by rw[IntKind.wrap_i64];omega
   have iF:IntKind.i64.wrap ((Tl:Int) - (S4.length:Int))=(D.1.length:Int):=by rw[IntKind.wrap_i64];omega
   have JQ:IntKind.u16.wrap (D.1.length:Int)=(D.1.length:Int):=by show(D.1.length:Int)%65536=_;omega
   have gg:(0:Int)≤(B3.length:Int):=by omega
   have kU:(B3.length:Int)≤(S4.length:Int):=by omega
   have JR:(S4.length:Int)≤(c8:Int):=by omega
   have JS:¬c8=B3.length:=by omega
   have Fv:=Z7 l8
   have kV:=Z7 kP
   have zX:=Z7 nP
   have mX:=Z7 ko
   have zO:=Z7 mU
   clear kP nP ko mU l8;go_upto_region 10 with fail
   refine wp_region_noPanic ?_;refine za6 (S:=(fun V=>V.cell? ⟨g,0,none⟩=some (.slice (some ⟨gA,0,none⟩) Tl c8))) (.take 0 (.take 1 (.take 2 (.take 3 (.take 4 (.take 5 (.take 6 (.take 7 (.take 8 (.take 9 (.take 10 (.take 11 (.take 12 (.take 13 (.take 14 (.take 15 (.run 16 (.run 17 (.done))))))))))))))))))) (by kernel_rfl) (by kernel_rfl) (fun _ _ _ _ _ h=>h) (jg.out _ ((Z5 w8).drew)) ?_
   repeat((with_reducible refine za7 ?_);first
    |(refine za4 (v:=?_) (by rfl) (by rfl) ?_ ?_;rotate_left;(focus(intro V hV;(try dsimp only at hV);(go_simp<;>with_reducible rfl)));(try simp only[ap]))
    |(refine zaf (by rfl) (by rfl) ?_;(try simp only[ap])))
   refine za5 (by rfl) (fun K hK=>?_)
   go_simp;refine(ka.out _).mono ?_;rintro e w9 ⟨A9,c9,rfl,nT,ej⟩;have jH:Ext w8 w9:=Ext.trans ((Z5 w8).drew) ej
   simp only[List.nil_append,Int.toNat_natCast,zah]at nT ⊢;refine hK.out _ _ ?_ ?_
   ·exact jg.out _ jH
   clear hK K
   (try simp only[ap])
   refine za5 (by rfl) (fun K hK=>?_)
   obtain⟨g9,rfl,_,_⟩:=nT.addr (by omega)
   have zY:((two D.1.length).map U8).length=2:=by rw[List.length_map,zah]
   obtain⟨gB,cur,fzB,eA,Fw,Fx,gN,pC,qQ⟩:=zFg (o:=B3.length) (cs:=(two D.1.length).map U8) (ia.ext jH) (by rw[zY];omega) (by rw[zY];have:=kV.out;have:=mX.out;omega)
   obtain rfl:gA=gB:=by injection eA with eA;injection eA
   have lC:∀j v,((two D.1.length).map U8)[j]? =some v→w9.cell? ((⟨g9,0,none⟩:Addr).add j)=some v:=fun j v hj=>by
    obtain⟨b',off',e',_,_,h3⟩:=nT.rd.2 (by omega)
    injection e' with e'
    injection e' with e1 e2
    subst e1 e2;rw[zdv];exact h3 j v hj
   obtain⟨wX,bF⟩:∃wX,wX=w9.setRow gA (cur.toList.take B3.length++(two D.1.length).map U8++cur.toList.drop (B3.length+((two D.1.length).map U8).length)).toArray:=⟨_,rfl⟩
   rw[←bF]at pC qQ;have nU:g≠gA:=fun e=>zto (ia.ext jH) ((jH.block g pB).trans uZ) (by decide) (by rw[e];rfl)
   have uR:=(qQ.block g (Z1 pB jH.size) (fun e=>nU (by injection e))).trans ((jH.block g pB).trans uZ)
   have nw:=Z7 (zE9 (.inl kj.out) hI ga nN nO jH Fv.out kV.out zX.out zO.out ab qP uR (ia.ext jH) pC qQ ((Fu.ext jH).keptZ (ia.ext jH) qQ) Fs.out)
   refine zBn rfl (.tmp 66) (.tmp 75) _ rfl 5 Tryz.underlying110 (by kernel_rfl) gA B3.length (S4.length - B3.length) (c8 - B3.length) rfl ⟨g9,0,none⟩ 2 c9 rfl cur 5 fzB ((two D.1.length).map U8) Fw Fx (by rw[zY];have:=mX.out;show 2=min 2 (S4.length - B3.length);omega) lC gN (zf6 _) ?_
   rw[←bF];clear bF;refine hK.out _ _ ?_ ?_
   ·exact(cell_of_row _ g 0 _ _ _ uR)
   clear hK K
   (try simp only[ap])
   refine zag ?_;refine NoPanic.normal ?_;go_wp2_with fail;go_roundw
   case rel=>exact⟨k+1,_,_,by go_num,nw.out⟩
   case measure=>simp[intOf];omega
  ·have e1:l.drop k=[]:=List.drop_of_length_le (by omega)
   have dh:=hI.eq
   rw[e1]at dh;have HX:=Z7 (show(B,T)=R by rw[←dh];simp[zaj])
   clear dh e1;have cS:¬((k:Int)<(l.length:Int)):=by omega
   go_wp2_with fail
   go_end0
   rw[←HX.out];exact⟨.inl ⟨hB,rfl,hW,hI.ky⟩,hI.blw⟩
end Go.Proofs.YtdnpmapelmjfpaaGreatDoor
