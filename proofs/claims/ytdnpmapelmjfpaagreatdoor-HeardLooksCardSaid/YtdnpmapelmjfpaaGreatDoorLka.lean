/- Lemmas of this claim. No condition. -/
import Derived.Test.YtdnpmapelmjfpaaGreatDoorLrz
set_option maxHeartbeats 16000000
set_option linter.unusedVariables false
set_option linter.unusedSimpArgs false
set_option maxRecDepth 100000
namespace Go.Proofs.YtdnpmapelmjfpaaGreatDoor
theorem zcp:(4:Nat)≠0:=by decide
def zc9 (k:Nat) (d:List UInt8) (s:Nat×Nat):Nat×(Nat×Nat):=
 if s.2≠0 then(0,s)else if d.length<s.1+k then(0,(s.1,4))else(be ((d.drop s.1).take k),(s.1+k,0))
def zcg (d:List UInt8) (s:Nat×Nat):List UInt8×(Nat×Nat):=
 if s.2≠0 then([],s)else((readN d s.1).1,((readN d s.1).2.1,(readN d s.1).2.2))
def okS (d:List UInt8) (s:Nat×Nat):Prop:=s.2=0→s.1≤d.length
theorem zcl {k:Nat} {d:List UInt8} {s:Nat×Nat} (h:s.2≠0):zc9 k d s=(0,s):=if_pos h
theorem zi8 {k p v p':Nat} {d:List UInt8} (h:zal k d p=.ok (v,p')):zc9 k d (p,0)=(v,(p',0)):=by
 obtain⟨h1,h2,h3⟩:=zc2 h
 unfold zc9;rw[if_neg (by simp),if_neg (by dsimp only;omega),h3,h1]
theorem zi7 {k p x:Nat} {d:List UInt8} (h:zal k d p=.error x):zc9 k d (p,0)=(0,(p,4)):=by
 obtain⟨_,h2⟩:=zcv h
 unfold zc9;rw[if_neg (by simp),if_pos (by dsimp only;omega)]
theorem zeg {k:Nat} {d:List UInt8} {s:Nat×Nat} (h:okS d s):okS d (zc9 k d s).2:=by
 unfold zc9;split
 ·exact h
 ·split
  ·intro e;exact absurd e zcp
  ·intro _;dsimp only;omega
theorem zi6 (k:Nat) (d:List UInt8) (s:Nat×Nat) (hk:k≤4):(zc9 k d s).1<256^k:=by
 have hp:0<256^k:=Nat.pow_pos (by decide)
 unfold zc9;split
 ·exact hp
 ·split
  ·exact hp
  ·rename_i h1 h2;have h3:((d.drop s.1).take k).length≤k:=by rw[List.length_take];omega
   exact Z1 (zop _) (Nat.pow_le_pow_right (by decide) h3)
theorem zAm {d:List UInt8} {s:Nat×Nat} (h:s.2≠0):zcg d s=([],s):=if_pos h
theorem zgg (d:List UInt8) (p:Nat):zcg d (p,0)=((readN d p).1,((readN d p).2.1,(readN d p).2.2)):=rfl
theorem zm1 {d:List UInt8} {s:Nat×Nat} (h:okS d s):okS d (zcg d s).2:=by
 obtain⟨p,e⟩:=s
 unfold zcg;split
 ·exact h
 ·rename_i he;have jM:e=0:=by simpa using he
  intro h2;dsimp only at h2 ⊢;exact(ze2 d p).1
def quS (d:List UInt8) (s:Nat×Nat):QD×(Nat×Nat):=
 (⟨(zcg d s).1,(zc9 2 d (zcg d s).2).1,(zc9 2 d (zc9 2 d (zcg d s).2).2).1⟩,(zc9 2 d (zc9 2 d (zcg d s).2).2).2)
theorem zGh (d:List UInt8) (p:Nat):((quS d (p,0)).2.2=0∧quR d p=.ok ((quS d (p,0)).1,(quS d (p,0)).2.1))∨((quS d (p,0)).2.2≠0∧∃x,quR d p=.error x):=by
 unfold quS;rcases h1:zbj d p with x|⟨n,p1⟩
 ·obtain⟨hx,hr⟩:=zim h1
  have hs:(zcg d (p,0)).2.2≠0:=by rw[zgg];dsimp only;rw[hr];exact hx
  rw[zcl (s:=(zcg d (p,0)).2) hs]
  dsimp only;rw[zcl (s:=(zcg d (p,0)).2) hs]
  exact .inr ⟨hs,x,zB1 h1⟩
 have hn:=zgr h1
 have hs:zcg d (p,0)=(n,(p1,0)):=by rw[zgg,hn]
 rw[hs];dsimp only;rcases h2:zal 2 d p1 with x|⟨ty,p2⟩
 ·rw[zi7 h2];dsimp only;rw[zcl (s:=(p1,4)) zcp]
  exact .inr ⟨zcp,x,zB2 h1 h2⟩
 rw[zi8 h2];dsimp only;rcases h3:zal 2 d p2 with x|⟨cl,p3⟩
 ·rw[zi7 h3];exact .inr ⟨zcp,x,zB3 h1 h2 h3⟩
 rw[zi8 h3];exact .inl ⟨rfl,zB4 h1 h2 h3⟩
structure RcS where
 n:List UInt8
 ty:Nat
 cl:Nat
 tt:Nat
 sz:Nat
 st:Nat×Nat
def rcS (d:List UInt8) (s:Nat×Nat):RcS:=
 let a:=zcg d s
 let b:=zc9 2 d a.2
 let c:=zc9 2 d b.2
 let t:=zc9 4 d c.2
 let z:=zc9 2 d t.2
 ⟨a.1,b.1,c.1,t.1,z.1,z.2⟩
def zi0 (d:List UInt8) (more:Bool) (ed:Option EdD) (n:List UInt8) (ty cl tt sz p:Nat):Except Nat (Option RecD×Option EdD×Nat):=
 if d.length<p+sz then .error 4
 else if ty=41 then
  (if more=false∨ed.isSome=true∨n≠[0]then .error 3
   else match edR cl tt ((d.drop p).take sz)with
    | .error e=>.error e
    | .ok x=>.ok (none,some x,p+sz))
 else if(splitOf (d.take (p+sz)) p ty).2=0 then .ok (some ⟨n,ty,cl,tt,textOf (splitOf (d.take (p+sz)) p ty).1⟩,ed,p+sz)
 else .error (splitOf (d.take (p+sz)) p ty).2
theorem zGi (d:List UInt8) (more:Bool) (ed:Option EdD) (p:Nat):((rcS d (p,0)).st.2=0∧zbd d more ed p=zi0 d more ed (rcS d (p,0)).n (rcS d (p,0)).ty (rcS d (p,0)).cl (rcS d (p,0)).tt (rcS d (p,0)).sz (rcS d (p,0)).st.1)∨((rcS d (p,0)).st.2≠0∧∃x,zbd d more ed p=.error x):=by
 unfold rcS;dsimp only;rcases h1:zbj d p with x|⟨n,p1⟩
 ·obtain⟨hx,hr⟩:=zim h1
  have hs:(zcg d (p,0)).2.2≠0:=by rw[zgg];dsimp only;rw[hr];exact hx
  rw[zcl (s:=(zcg d (p,0)).2) hs]
  dsimp only;rw[zcl (s:=(zcg d (p,0)).2) hs]
  dsimp only;rw[zcl (s:=(zcg d (p,0)).2) hs]
  dsimp only;rw[zcl (s:=(zcg d (p,0)).2) hs]
  exact .inr ⟨hs,x,zk1 h1⟩
 have hn:=zgr h1
 have hs:zcg d (p,0)=(n,(p1,0)):=by rw[zgg,hn]
 rw[hs];dsimp only;rcases h2:zal 2 d p1 with x|⟨ty,p2⟩
 ·rw[zi7 h2];dsimp only;rw[zcl (s:=(p1,4)) zcp];dsimp only
  rw[zcl (s:=(p1,4)) zcp];dsimp only
  rw[zcl (s:=(p1,4)) zcp]
  exact .inr ⟨zcp,x,zk2 h1 h2⟩
 rw[zi8 h2];dsimp only;rcases h3:zal 2 d p2 with x|⟨cl,p3⟩
 ·rw[zi7 h3];dsimp only;rw[zcl (s:=(p2,4)) zcp];dsimp only
  rw[zcl (s:=(p2,4)) zcp]
  exact .inr ⟨zcp,x,zk3 h1 h2 h3⟩
 rw[zi8 h3];dsimp only;rcases h4:zal 4 d p3 with x|⟨tt,p4⟩
 ·rw[zi7 h4];dsimp only;rw[zcl (s:=(p3,4)) zcp]
  exact .inr ⟨zcp,x,zk4 h1 h2 h3 h4⟩
 rw[zi8 h4];dsimp only;rcases h5:zal 2 d p4 with x|⟨sz,p5⟩
 ·rw[zi7 h5];exact .inr ⟨zcp,x,zk5 h1 h2 h3 h4 h5⟩
 rw[zi8 h5];dsimp only;exact .inl ⟨rfl,zk0 h1 h2 h3 h4 h5⟩
theorem zGj {d:List UInt8} {p:Nat} (hp:p≤d.length):okS d (rcS d (p,0)).st:=by
 unfold rcS;dsimp only;exact zeg (zeg (zeg (zeg (zm1 (fun _=>hp)))))
theorem zyg {msg:List UInt8} (hm:msg.length≤16384) {more:Bool} {ed ed':Option EdD} {pos p:Nat} {r:RecD} (h:zbd msg more ed pos=.ok (some r,ed',p)):r.name.length≤255∧r.data.length≤100000:=by
 rcases h1:zbj msg pos with e|⟨n,p1⟩
 ·rw[zk1 h1]at h;cases h
 rcases h2:zal 2 msg p1 with e|⟨ty,p2⟩
 ·rw[zk2 h1 h2]at h;cases h
 rcases h3:zal 2 msg p2 with e|⟨cl,p3⟩
 ·rw[zk3 h1 h2 h3]at h;cases h
 rcases h4:zal 4 msg p3 with e|⟨tt,p4⟩
 ·rw[zk4 h1 h2 h3 h4]at h;cases h
 rcases h5:zal 2 msg p4 with e|⟨sz,p5⟩
 ·rw[zk5 h1 h2 h3 h4 h5]at h;cases h
 rw[zk0 h1 h2 h3 h4 h5]at h;split at h
 ·cases h
 ·split at h
  ·split at h
   ·cases h
   ·rcases h6:edR cl tt ((msg.drop p5).take sz)with e|y
    ·rw[h6]at h;cases h
    ·rw[h6]at h;dsimp only at h;injection h with h;injection h with h _;cases h
  ·split at h
   ·injection h with h;injection h with h h'
    injection h with h
    rw[←h];have hn:=(ze2 msg pos).2
    rw[zgr h1]at hn;refine⟨hn,?_⟩;have hl:(msg.take (p5+sz)).length≤16384:=by rw[List.length_take];omega
    have re:p5≤(msg.take (p5+sz)).length:=by have:=(zc2 h5).2.1;have:=(zc2 h5).1;rw[List.length_take];omega
    have hb:=zgn (msg.take (p5+sz)) p5 ty re
    have:=zpo _ _ hb.2
    have h3:(splitOf (msg.take (p5+sz)) p5 ty).1.length*((msg.take (p5+sz)).length+255)≤3*(16384+255):=Nat.mul_le_mul hb.1 (by omega)
    dsimp only;omega
   ·cases h
theorem zh3 {msg:List UInt8} (hm:msg.length≤16384) {more:Bool}:∀{k:Nat} {ed ed':Option EdD} {pos p:Nat} {l:List RecD},zao msg more k ed pos=.ok (l,ed',p)→∀r∈l,r.name.length≤255∧r.data.length≤100000
 |0,ed,ed',pos,p,l,h=>by
  unfold zao at h;injection h with h;injection h with h _
  subst h;intro r hr;cases hr
 |k+1,ed,ed',pos,p,l,h=>by
  unfold zao at h;rcases h1:zbd msg more ed pos with e|⟨r,e1,p1⟩
  ·rw[h1]at h;cases h
  ·rw[h1]at h;dsimp only at h;rcases h2:zao msg more k e1 p1 with e|⟨l2,e2,p2⟩
   ·rw[h2]at h;cases h
   ·rw[h2]at h;dsimp only at h;injection h with h;injection h with h _
    subst h;intro y hy;rcases List.mem_append.1 hy with h3|h3
    ·cases r with
     |none=>cases h3
     |some r0=>
      have:y=r0:=by simpa using h3
      subst this;exact zyg hm h1
    ·exact zh3 hm h2 y h3
end Go.Proofs.YtdnpmapelmjfpaaGreatDoor
namespace Go.Proofs.YtdnpmapelmjfpaaGreatDoor
open Go.RowKit
theorem zB8 (n:Nat) (w:World) (hn:n≤65535):
 Calls Tryz.prog 165 #[.int .u16 (n:Int)] w fun e w'=>e=.returned (hdV (za1 0 n))∧Ext w w':=by
 go_enter Tryz.func165,Tryz.ntmps165;go_wp2_with fail;have hr:=heap_alloc_new w (.cells #[.int .u16 0,.bool ((n:Int)/32768==1),.int .u8 ((n:Int)/2048%16),.bool ((n:Int)/1024%2==1),.bool ((n:Int)/512%2==1),.bool ((n:Int)/256%2==1),.bool ((n:Int)/128%2==1),.bool ((n:Int)/64%2==1),.bool ((n:Int)/32%2==1),.bool ((n:Int)/16%2==1),.int .u8 ((n:Int)%16)] 30)
 refine bodyPost_ret (results_cell_row rfl _ _ w.heap.size _ _ _ _ rfl hr Tryz.underlying30 rfl (by kernel_rfl)) rfl ?_
 refine⟨?_,(Z5 _).alloc _⟩;have hb:∀k:Nat,((n:Int)/(k:Int)%2==1)=decide (n/k%2=1):=by
  intro k;have:((n:Int)/(k:Int)%2)=((n/k%2:Nat):Int):=by push_cast;rfl
  rw[this];by_cases h:n/k%2=1
  ·simp[h]
  ·simp only[decide_eq_false h,beq_eq_false_iff_ne,ne_eq];omega
 have h0:((n:Int)/32768==1)=decide (n/32768=1):=by
  by_cases h:n/32768=1
  ·rw[decide_eq_true h,beq_iff_eq];omega
  ·simp only[decide_eq_false h,beq_eq_false_iff_ne,ne_eq];omega
 have h1:((n:Int)/1024%2==1)=decide (n/1024%2=1):=hb 1024
 have h2:((n:Int)/512%2==1)=decide (n/512%2=1):=hb 512
 have h3:((n:Int)/256%2==1)=decide (n/256%2=1):=hb 256
 have h4:((n:Int)/128%2==1)=decide (n/128%2=1):=hb 128
 have h5:((n:Int)/64%2==1)=decide (n/64%2=1):=hb 64
 have h6:((n:Int)/32%2==1)=decide (n/32%2=1):=hb 32
 have h7:((n:Int)/16%2==1)=decide (n/16%2=1):=hb 16
 clear hb;rw[h0,h1,h2,h3,h4,h5,h6,h7];rfl
theorem zDb (s:List UInt8) (k:Nat) (h:k+1<s.length):n16 s k=(s[k]'(by omega)).toNat*256+(s[k+1]).toNat:=by
 have e:(s.drop k).take 2=[s[k]'(by omega),s[k+1]]:=by
  rw[List.drop_eq_getElem_cons (by omega:k<s.length),List.drop_eq_getElem_cons h]
  rfl
 unfold n16;rw[e];simp[be]
theorem zer (s:List UInt8) (k:Nat) (w:World) (hl:s.length≤1048576) (hk:k+1<s.length):
 Calls Tryz.prog 166 #[S s,.int .i64 (k:Int)] w fun e w'=>e=.returned (.int .i64 (n16 s k:Int))∧Ext w w':=by
 have Hn:=Z7 (zDb s k hk)
 have cW:k<s.length:=by omega
 obtain⟨b0,z5,Ei,IC,ID⟩:=zbu s k cW
 obtain⟨b1,z6,Ej,IE,IF⟩:=zbu s (k+1) hk
 have et:((k:Int)+1).toNat=k+1:=by omega
 have qE:(k:Int)+1<(s.length:Int):=by omega
 go_enter Tryz.func166,Tryz.ntmps166;go_wp2_with fail;go_region
 (try simp only[Exit.inBlock,Exit.then])
 go_wp2_with fail;go_ret;refine⟨?_,(Z5 _).drew⟩;rw[Hn.out,z5.out,z6.out]
 push_cast
 rfl
theorem zu3 (s:List UInt8) (w:World) (hs:s.length<12):
 Calls Tryz.prog 106 #[S s] w fun e w'=>e=.returned (.tuple #[hdV hdZ,.agg #[.int .i64 0,.int .i64 0,.int .i64 0,.int .i64 0],.int .i64 4])∧Ext w w':=by
 have ab:(s.length:Int)<12:=by omega
 go_enter Tryz.func106,Tryz.ntmps106;go_wp2_with fail;have h1:=heap_alloc_new w (.cells #[.int .u16 0,.bool false,.int .u8 0,.bool false,.bool false,.bool false,.bool false,.bool false,.bool false,.bool false,.int .u8 0] 30)
 have r1:=heap_alloc2_new w (.cells #[.int .u16 0,.bool false,.int .u8 0,.bool false,.bool false,.bool false,.bool false,.bool false,.bool false,.bool false,.int .u8 0] 30) (.cells #[.int .i64 0,.int .i64 0,.int .i64 0,.int .i64 0] 129)
 have r0:=(heap_alloc_old (w.alloc (.cells #[.int .u16 0,.bool false,.int .u8 0,.bool false,.bool false,.bool false,.bool false,.bool false,.bool false,.bool false,.int .u8 0] 30)) (.cells #[.int .i64 0,.int .i64 0,.int .i64 0,.int .i64 0] 129) (Z9 h1)).trans h1
 refine bodyPost_ret (zgl rfl _ _ w.heap.size (w.heap.size+1) _ _ _ _ _ _ _ _ rfl r0 Tryz.underlying30 rfl (by kernel_rfl) rfl r1 Tryz.underlying129 rfl (by kernel_rfl)) rfl ?_
 exact⟨rfl,((Z5 _).alloc _).alloc _⟩
abbrev hdC (h:HdD):Array Value:= #[.int .u16 h.id,.bool h.qr,.int .u8 h.op,.bool h.aa,.bool h.tc,.bool h.rd,.bool h.ra,.bool h.z,.bool h.ad,.bool h.cd,.int .u8 h.code]
abbrev zxr:Array Value:= #[.int .u16 0,.bool false,.int .u8 0,.bool false,.bool false,.bool false,.bool false,.bool false,.bool false,.bool false,.int .u8 0]
theorem zrz (s:List UInt8) (k:Nat):IntKind.u16.wrap (n16 s k:Int)=(n16 s k:Int):=by
 have h:=zdl s k
 exact Int.emod_eq_of_lt (by omega) (by show _<(65536:Int);omega)
theorem zB9 (s:List UInt8) (w:World) (hs:12≤s.length) (hl:s.length≤1048576):
 Calls Tryz.prog 106 #[S s] w fun e w'=>e=.returned (.tuple #[hdV (za1 (n16 s 0) (n16 s 2)),.agg #[.int .i64 (n16 s 4:Int),.int .i64 (n16 s 6:Int),.int .i64 (n16 s 8:Int),.int .i64 (n16 s 10:Int)],.int .i64 0])∧Ext w w':=by
 have ab:¬(s.length:Int)<12:=by omega
 have bI:=zrz s 2
 have aP:=zrz s 0
 go_enter Tryz.func106,Tryz.ntmps106;go_wp2_with fail;refine(zer s 2 _ hl (by omega)).mono ?_
 rintro e w1 ⟨rfl,ae⟩;go_wp2_with fail;refine(zB8 (n16 s 2) _ (by have:=zdl s 2;omega)).mono ?_
 rintro e w2 ⟨rfl,ah⟩;unfold hdV za1;dsimp only;go_wp2_with fail;refine(zer s 0 _ hl (by omega)).mono ?_
 rintro e w3 ⟨rfl,ao⟩;have r5:=(ao.block _ (Array.getElem?_eq_some_iff.1 (heap_alloc_new w2 _)).1).trans (heap_alloc_new w2 _)
 have c5:w3.cell? ⟨w2.heap.size,0,none⟩=some (.int .u16 0):=by simp[World.cell?,r5]
 have f5:∀j,w3.frozen? ⟨w2.heap.size,j,none⟩=false:=by intro j;simp[World.frozen?,r5]
 go_upto_region 5 with fail
 have ax:w.heap.size+2≤w2.heap.size:=by
  have h0:=ae.size;have h1:=ah.size
  simp at h0 h1;omega
 have q1:=heap_alloc_new w (.cells zxr 30)
 have q3:=heap_alloc2_new w (.cells zxr 30) (.cells #[.int .i64 0,.int .i64 0,.int .i64 0,.int .i64 0] 129)
 have q2:=(heap_alloc_old (w.alloc (.cells zxr 30)) (.cells #[.int .i64 0,.int .i64 0,.int .i64 0,.int .i64 0] 129) (Z9 q1)).trans q1
 have hX:Ext w w2:=(((Z5 w).alloc _).alloc _).trans (ae.trans ah)
 have bQ:=(ae.trans ah)
 have u2:=Z8 bQ q2
 have u3:=Z8 bQ q3
 have iW:Ext w2 w3:=((Z5 w2).alloc _).trans ao
 have v2:=Z8 iW u2
 have v3:=Z8 iW u3
 obtain⟨V0,cX⟩:∃V0,V0=w3.setCell ⟨w2.heap.size,0,none⟩ (.int .u16 (n16 s 0:Int)):=⟨_,rfl⟩
 have x5:V0.heap[w2.heap.size]? =some (.cells (hdC (za1 (n16 s 0) (n16 s 2))) 30):=by rw[cX];exact za2 r5 0 _
 have x2:V0.heap[w.heap.size]? =some (.cells zxr 30):=by rw[cX];exact(Below.heap_setCell _ ⟨w2.heap.size,0,none⟩ _ _ (by dsimp only;omega)).trans v2
 have x3:V0.heap[w.heap.size+1]? =some (.cells #[.int .i64 0,.int .i64 0,.int .i64 0,.int .i64 0] 129):=by rw[cX];exact(Below.heap_setCell _ ⟨w2.heap.size,0,none⟩ _ _ (by dsimp only;omega)).trans v3
 have aD:Ext w V0:=by rw[cX];exact(hX.trans iW).setCell (by dsimp only;omega) _
 rw[←cX];clear cX v2 v3 u2 u3 q1 q2 q3 ae ah ao bQ iW hX r5 c5 f5 w1;obtain⟨b5,aG⟩:∃b5,b5=w2.heap.size:=⟨_,rfl⟩
 rw[←aG]at x5 ax ⊢;clear aG;refine wp_region_noPanic ?_;refine za6 (S:=fun V=>V.heap[b5]? =some (.cells (hdC (za1 (n16 s 0) (n16 s 2))) 30)) (.take 0 (.take 1 (.take 3 (.take 5 (.take 7 (.run 2 (.run 4 (.run 6 (.run 8 (.take 9 (.run 10 (.run 11 (.take 12 .done))))))))))))) (by kernel_rfl) (by kernel_rfl) (fun _ _ _ _ _ h=>h) x5 ?_
 refine za4 (v:=?_) (by rfl) (by rfl) ?_ ?_
 rotate_left
 (focus(intro V hV;refine zce 30 (.tmp 5) ?_ b5 0 ?_ _ (zba hV) _ Tryz.underlying30 ?_ ?_;(focus rfl);(focus rfl);(focus rfl);(focus kernel_rfl)))
 (try simp only[ap])
 repeat((with_reducible refine za7 ?_);first
  |(refine za4 (v:=?_) (by rfl) (by rfl) ?_ ?_;rotate_left;(focus(intro V hV;(try dsimp only at hV);(go_simp<;>with_reducible rfl)));(try simp only[ap])))
 refine za5 (by rfl) (fun K hK=>?_)
 go_simp;refine(zer s 4 _ hl (by omega)).mono ?_;rintro e w4 ⟨rfl,aL⟩
 have y5_4:=Z8 aL x5
 refine hK.out _ _ y5_4 ?_;clear hK K
 (try simp only[ap])
 refine za5 (by rfl) (fun K hK=>?_)
 go_simp;refine(zer s 6 _ hl (by omega)).mono ?_;rintro e w5 ⟨rfl,am⟩
 have y5_5:=Z8 am y5_4
 refine hK.out _ _ y5_5 ?_;clear hK K
 (try simp only[ap])
 refine za5 (by rfl) (fun K hK=>?_)
 go_simp;refine(zer s 8 _ hl (by omega)).mono ?_;rintro e w6 ⟨rfl,aw⟩
 have y5_6:=Z8 aw y5_5
 refine hK.out _ _ y5_6 ?_;clear hK K
 (try simp only[ap])
 refine za5 (by rfl) (fun K hK=>?_)
 go_simp;refine(zer s 10 _ hl (by omega)).mono ?_;rintro e w7 ⟨rfl,aS⟩
 have y5_7:=Z8 aS y5_6
 refine hK.out _ _ y5_7 ?_;clear hK K
 (try simp only[ap])
 have yT:Ext V0 w7:=((Z5 V0).drew.trans aL).trans (am.trans (aw.trans aS))
 have z2:=Z8 yT x2
 have z3:=Z8 yT x3
 have xr:Ext w w7:=aD.trans yT
 clear aL am aw aS y5_4 y5_5 y5_6 yT
 repeat((with_reducible refine za7 ?_);first
  |(refine za4 (v:=?_) (by rfl) (by rfl) ?_ ?_;rotate_left;(focus(intro V hV;(try dsimp only at hV);(go_simp<;>with_reducible rfl)));(try simp only[ap])))
 refine za5 (by rfl) (fun K hK=>?_)
 rw[if_pos (by rfl)]
 refine wp_store_row 30 (.tmp 2) (.tmp 19) rfl w.heap.size (hdC (za1 (n16 s 0) (n16 s 2))) rfl rfl 30 _ z2 (by kernel_rfl) rfl (by kernel_rfl) ?_
 have g1:=zak w7 w.heap.size (hdC (za1 (n16 s 0) (n16 s 2)))
 have b0:=setRow_heap w7 w.heap.size _ (hdC (za1 (n16 s 0) (n16 s 2))) _ _ z2
 have b1:=(g1.block _ (Z9 z3) (by simp)).trans z3
 have b5':=(g1.block _ (Z9 y5_7) (by simp;omega)).trans y5_7
 have dj:Ext w (w7.setRow w.heap.size (hdC (za1 (n16 s 0) (n16 s 2)))):=Below.grown xr g1 xr.size (fun k hk=>by injection hk with hk;omega)
 refine hK.out _ _ b5' ?_;clear hK K
 (try simp only[ap])
 obtain⟨V8,Ek⟩:∃V8,V8=w7.setRow w.heap.size (hdC (za1 (n16 s 0) (n16 s 2))):=⟨_,rfl⟩
 rw[←Ek]at b0 b1 b5' dj ⊢;clear Ek;refine za5 (by rfl) (fun K hK=>?_)
 rw[if_pos (by rfl)]
 refine wp_store_row 129 (.tmp 3) (.tmp 28) rfl (w.heap.size+1) #[.int .i64 (n16 s 4:Int),.int .i64 (n16 s 6:Int),.int .i64 (n16 s 8:Int),.int .i64 (n16 s 10:Int)] rfl rfl 129 _ b1 (by kernel_rfl) rfl (by kernel_rfl) ?_
 have g2:=zak V8 (w.heap.size+1) #[.int .i64 (n16 s 4:Int),.int .i64 (n16 s 6:Int),.int .i64 (n16 s 8:Int),.int .i64 (n16 s 10:Int)]
 have m1:=setRow_heap V8 (w.heap.size+1) _ #[.int .i64 (n16 s 4:Int),.int .i64 (n16 s 6:Int),.int .i64 (n16 s 8:Int),.int .i64 (n16 s 10:Int)] _ _ b1
 have m0:=(g2.block _ (Z9 b0) (by simp)).trans b0
 have m5:=(g2.block _ (Z9 b5') (by simp;omega)).trans b5'
 have ej:=Below.grown dj g2 dj.size (fun k hk=>by injection hk with hk;omega)
 refine hK.out _ _ m5 ?_;clear hK K
 (try simp only[ap])
 repeat((with_reducible refine za7 ?_);first
  |(refine za4 (v:=?_) (by rfl) (by rfl) ?_ ?_;rotate_left;(focus(intro V hV;(try dsimp only at hV);(go_simp<;>with_reducible rfl)));(try simp only[ap])))
 refine zag ?_;refine NoPanic.normal ?_;go_wp2_with fail;refine bodyPost_ret (zgl rfl _ _ w.heap.size (w.heap.size+1) _ _ _ _ _ _ _ _ rfl m0 Tryz.underlying30 rfl (by kernel_rfl) rfl m1 Tryz.underlying129 rfl (by kernel_rfl)) rfl ?_
 exact⟨rfl,ej⟩
section
variable {P : Program} {ops : Array Oper} {Q : Exit → Act → World → Prop}
theorem zaz {rest:List Oper} {o:Oper} {a:Act} {w:World} (Ag:Region.wanted o (yielded ops a.tmps)=true) (ty:TypeId) (x:Operand) (ho:o.op=.load ty x)
 (g:Nat) (hx:a.eval x=.pointer (some ⟨g,0,none⟩)) (t:TypeId) (cs:Array Value) (fr:Nat×Nat) (d:TypeDesc) (hg:w.heap[g]? =some (.cells cs t fr))
 (hu:P.underlying ty=some d) (hd:(match d with| .struct _| .array _ _=>true|_=>false)=true) (hi:(P.info? ty).map (·.size)=some cs.size)
 (h:wpList P ops Q rest (a.put o.dst (.agg cs)) w):wpList P ops Q (o::rest) a w:=
 wpList_step fun K hK=>by
  rw[if_pos Ag];exact wp_load_row ty x ho g hx t cs fr d hg hu hd hi (hK _ _ h)
end
abbrev zhx (s:Nat×Nat):Array Value:= #[.int .i64 (s.1:Int),.int .i64 (s.2:Int)]
structure StP (pp:Nat) (s:Nat×Nat) (w w':World):Prop where
 row:w'.heap[pp]? =some (.cells (zhx s) 195)
 kept:KeptB pp pp w w'
 below:Below pp w w'
theorem zjx {w:World} {pp:Nat} {s:Nat×Nat} (h:w.heap[pp]? =some (.cells (zhx s) 195)):w.cell? ⟨pp,0,none⟩=some (.int .i64 (s.1:Int))∧w.cell? ⟨pp,1,none⟩=some (.int .i64 (s.2:Int))∧(∀j,w.frozen? ⟨pp,j,none⟩=false):=by
 refine⟨?_,?_,fun j=>?_⟩<;>simp[World.cell?,World.frozen?,h]
theorem StP.refl {w:World} {pp:Nat} {s:Nat×Nat} (h:w.heap[pp]? =some (.cells (zhx s) 195)):StP pp s w w:=⟨h,KeptB.refl _ _ _,Below.refl _ _⟩
theorem StP.ext {w w1 w':World} {pp:Nat} {s:Nat×Nat} (h:StP pp s w w1) (hE:Ext w1 w'):StP pp s w w':=by
 have hz:=(Z9 h.row)
 exact⟨(hE.block pp hz).trans h.row,h.kept.trans (KeptB.ext hE),h.below.trans (hE.mono (by omega))⟩
theorem StP.trans {w w1 w':World} {pp:Nat} {s s1:Nat×Nat} (h:StP pp s1 w w1) (k:StP pp s w1 w'):StP pp s w w':=⟨k.row,h.kept.trans k.kept,h.below.trans k.below⟩
theorem StP.set0 {w w1:World} {pp:Nat} {s:Nat×Nat} (h:StP pp s w w1) {m:Int} {k:Nat} (e:m=(k:Int)):StP pp (k,s.2) w (w1.setCell ⟨pp,0,none⟩ (.int .i64 m)):=by
 subst e;exact⟨za2 h.row 0 _,h.kept.trans (KeptB.set w1 0 _),h.below.setCell (Z4 _) _⟩
theorem StP.set1 {w w1:World} {pp:Nat} {s:Nat×Nat} (h:StP pp s w w1) {m:Int} {k:Nat} (e:m=(k:Int)):StP pp (s.1,k) w (w1.setCell ⟨pp,1,none⟩ (.int .i64 m)):=by
 subst e;exact⟨za2 h.row 1 _,h.kept.trans (KeptB.set w1 1 _),h.below.setCell (Z4 _) _⟩
structure GoP (lo g pp:Nat) (M:Array Value) (s:Nat×Nat) (w w':World):Prop where
 box:w'.heap[g]? =some (.cells M 45)
 prt:w'.heap[pp]? =some (.cells (zhx s) 195)
 ne:g≠pp
 kept:KeptB g pp w w'
 below:Below lo w w'
theorem GoP.lt {w w':World} {lo g pp:Nat} {M:Array Value} {s:Nat×Nat} (h:GoP lo g pp M s w w'):g<w'.heap.size∧pp<w'.heap.size:=⟨(Z9 h.box),(Z9 h.prt)⟩
theorem GoP.refl {w:World} {lo g pp:Nat} {M:Array Value} {s:Nat×Nat} (h1:w.heap[g]? =some (.cells M 45)) (h2:w.heap[pp]? =some (.cells (zhx s) 195)) (h3:g≠pp):GoP lo g pp M s w w:=⟨h1,h2,h3,KeptB.refl _ _ _,Below.refl _ _⟩
theorem GoP.st {w w1 w':World} {lo g pp:Nat} {M:Array Value} {s s1:Nat×Nat} (h:GoP lo g pp M s w w1) (k:StP pp s1 w1 w') (ak:lo≤pp):GoP lo g pp M s1 w w':=
 ⟨k.kept.row h.box h.ne h.ne,k.row,h.ne,h.kept.trans k.kept.two,h.below.trans (k.below.mono ak)⟩
theorem GoP.more {w w1 w':World} {lo g pp:Nat} {M M1:Array Value} {s s1:Nat×Nat} (h:GoP lo g pp M s w1 w') (k:GoP lo g pp M1 s1 w w1):GoP lo g pp M s w w':=
 ⟨h.box,h.prt,h.ne,k.kept.trans h.kept,k.below.trans h.below⟩
theorem GoP.ext {w w1 w':World} {lo g pp:Nat} {M:Array Value} {s:Nat×Nat} (h:GoP lo g pp M s w w1) (hE:Ext w1 w') (ak:lo≤w.heap.size):GoP lo g pp M s w w':=
 ⟨(hE.block g h.lt.1).trans h.box,(hE.block pp h.lt.2).trans h.prt,h.ne,h.kept.trans (KeptB.ext hE),h.below.trans (hE.mono (Z2 ak h.kept.1))⟩
theorem GoP.setg {w w1:World} {lo g pp:Nat} {M:Array Value} {s:Nat×Nat} (h:GoP lo g pp M s w w1) (j:Nat) (u:Value) (ak:lo≤g):GoP lo g pp (M.setIfInBounds j u) s w (w1.setCell ⟨g,j,none⟩ u):=
 ⟨za2 h.box j u,(Below.heap_setCell w1 ⟨g,j,none⟩ u pp (fun e=>h.ne e.symm)).trans h.prt,h.ne,h.kept.trans (KeptB.setg w1 j u),h.below.setCell ak u⟩
theorem GoP.set1 {w w1:World} {lo g pp:Nat} {M:Array Value} {s:Nat×Nat} (h:GoP lo g pp M s w w1) {m:Int} {k:Nat} (e:m=(k:Int)) (ak:lo≤pp):GoP lo g pp M (s.1,k) w (w1.setCell ⟨pp,1,none⟩ (.int .i64 m)):=
 h.st ((StP.refl h.prt).set1 e) ak
theorem GoP.set0 {w w1:World} {lo g pp:Nat} {M:Array Value} {s:Nat×Nat} (h:GoP lo g pp M s w w1) {m:Int} {k:Nat} (e:m=(k:Int)) (ak:lo≤pp):GoP lo g pp M (k,s.2) w (w1.setCell ⟨pp,0,none⟩ (.int .i64 m)):=
 h.st ((StP.refl h.prt).set0 e) ak
theorem GoP.setNew {w w1:World} {lo g pp b:Nat} {M:Array Value} {s:Nat×Nat} (h:GoP lo g pp M s w w1) (hz:g<w.heap.size∧pp<w.heap.size) (ak:lo≤pp) (hb:w.heap.size≤b) (i:Nat) (u:Value):GoP lo g pp M s w (w1.setCell ⟨b,i,none⟩ u):=
 ⟨(Below.heap_setCell w1 ⟨b,i,none⟩ u g (by dsimp only;omega)).trans h.box,(Below.heap_setCell w1 ⟨b,i,none⟩ u pp (by dsimp only;omega)).trans h.prt,h.ne,h.kept.rowx hb u,h.below.setCell (by dsimp only;omega) u⟩
theorem GoP.grown {w w1 w2:World} {lo l2 g pp n c sz:Nat} {e:TypeId} {A:Option Addr} {xs:List Value} {M:Array Value} {s:Nat×Nat} (h:GoP lo g pp M s w w1) (hz:g<l2∧pp<l2) (ho:Own w1 l2 e sz A n c xs) (hg:w1.grownBy w2 (Value.slice A n c).ownBlock) (hb:Below l2 w1 w2) (ak:lo≤l2) (pw:w.heap.size≤l2):GoP lo g pp M s w w2:=
 ⟨(hb.block g hz.1).trans h.box,(hb.block pp hz.2).trans h.prt,h.ne,h.kept.grown ho pw hg,h.below.trans (hb.mono ak)⟩
theorem zsk (d:List UInt8) (p i:Nat) (h:p+i<d.length):be ((d.drop p).take (i+1))=be ((d.drop p).take i)*256+(d[p+i]).toNat:=by
 have hl:i<(d.drop p).length:=by rw[List.length_drop];omega
 rw[zat _ i hl];unfold be;rw[List.foldl_append];simp
theorem zul (b:UInt8):IntKind.u64.wrap (b.toNat:Int)=(b.toNat:Int):=by
 have:=b.toNat_lt
 exact Int.emod_eq_of_lt (by omega) (by show _<(18446744073709551616:Int);omega)
theorem zj8 {x:Int} (h0:0≤x) (h:x<18446744073709551616):IntKind.u64.wrap x=x:=Int.emod_eq_of_lt h0 h
theorem zlf (d:List UInt8) (p i:Nat) (hi:i≤4):be ((d.drop p).take i)<4294967296:=by
 have h3:((d.drop p).take i).length≤4:=by rw[List.length_take];omega
 exact Z1 (zop _) (Z2 (Nat.pow_le_pow_right (by decide) h3) (by decide))
theorem zes (pp k:Nat) (s:Nat×Nat) (d:List UInt8) (w:World) (h:w.heap[pp]? =some (.cells (zhx s) 195)) (hd:d.length≤1048576) (hk:k≤4) (hs:okS d s):
 Calls Tryz.prog 108 #[.pointer (some ⟨pp,0,none⟩),S d,.int .i64 (k:Int)] w fun e w'=>e=.returned (.int .u64 ((zc9 k d s).1:Int))∧StP pp (zc9 k d s).2 w w':=by
 obtain⟨c0,c1,cf⟩:=zjx h
 have f0:=cf 0
 have f1:=cf 1
 have HP:=Z7 (StP.refl h)
 obtain⟨p,er⟩:=s
 dsimp only at c0 c1;by_cases he:er=0
 ·subst he;have hp:p≤d.length:=hs rfl
  have mr:IntKind.i64.wrap ((d.length:Int) - (p:Int))=(d.length:Int) - (p:Int):=IntWalk.i64_in _ (by omega)
  by_cases cZ:d.length<p+k
  ·have hN:zc9 k d (p,0)=(0,(p,4)):=by unfold zc9;rw[if_neg (by simp),if_pos cZ]
   have ab:(d.length:Int) - (p:Int)<(k:Int):=by omega
   rw[hN];clear hN hs h;go_enter Tryz.func108,Tryz.ntmps108;go_wp2_with fail;go_ret;exact⟨rfl,HP.out.set1 rfl⟩
  ·have hN:zc9 k d (p,0)=(be ((d.drop p).take k),(p+k,0)):=by unfold zc9;rw[if_neg (by simp),if_neg cZ]
   have ab:¬(d.length:Int) - (p:Int)<(k:Int):=by omega
   rw[hN];clear hN hs h;go_enter Tryz.func108,Tryz.ntmps108;go_wp2_with fail
   go_loop [7,8] (fun v i=>∃j:Nat,j≤k∧i=.int .i64 j∧v=.int .u64 (be ((d.drop p).take j):Nat)) (fun _ i=>k - (intOf i).toNat)
   case atStart=>exact⟨0,by omega,rfl,rfl⟩
   case round=>
    obtain⟨j,hj,rfl,rfl⟩:=hrel
    by_cases ce:j<k
    ·have xu:p+j<d.length:=by omega
     obtain⟨c,Hb,cg,dp,aB⟩:=zbu d (p+j) xu
     have bO:=Z7 (zsk d p j xu)
     have hx:=zlf d p j (by omega)
     have qF:(j:Int)<(k:Int):=by omega
     generalize be ((d.drop p).take j)=x at*;have lL:IntKind.u64.wrap ((x:Int)*256)=(x:Int)*256:=zj8 (by omega) (by omega)
     have kp:IntKind.u64.wrap (c.toNat:Int)=(c.toNat:Int):=zul c
     have Bh:IntKind.u64.wrap ((x:Int)*256+(c.toNat:Int))=(x:Int)*256+(c.toNat:Int):=zj8 (by omega) (by omega)
     have et:((p:Int)+(j:Int)).toNat=p+j:=by omega
     have Ch:(p:Int)+(j:Int)<(d.length:Int):=by omega
     have co:IntKind.i64.wrap ((p:Int)+(j:Int))=(p:Int)+(j:Int):=IntWalk.i64_in _ (by omega)
     go_wp2_with fail;go_round
     case rel=>exact⟨j+1,by omega,by go_num,by rw[bO.out,Hb.out];push_cast;rfl⟩
     case measure=>simp[intOf];omega
    ·obtain rfl:j=k:=by omega
     have qF:¬(j:Int)<(j:Int):=by omega
     have co:IntKind.i64.wrap ((p:Int)+(j:Int))=(p:Int)+(j:Int):=IntWalk.i64_in _ (by omega)
     go_wp2_with fail;go_ret;exact⟨rfl,HP.out.set0 (by omega)⟩
 ·have hN:zc9 k d (p,er)=(0,(p,er)):=zcl he
  have f2:((er:Int)==0)=false:=zbm he
  have f3:((er:Int)!=0)=true:=by rw[bne,f2];rfl
  have f4:¬(er:Int)=0:=by omega
  rw[hN];clear hN hs h he;go_enter Tryz.func108,Tryz.ntmps108;go_wp2_with fail;go_ret;exact⟨rfl,HP.out⟩
theorem zrj (pp:Nat) (s:Nat×Nat) (d:List UInt8) (w:World) (h:w.heap[pp]? =some (.cells (zhx s) 195)) (hd:d.length≤1048576) (hs:okS d s):
 Calls Tryz.prog 107 #[.pointer (some ⟨pp,0,none⟩),S d] w fun e w'=>e=.returned (S (zcg d s).1)∧StP pp (zcg d s).2 w w':=by
 obtain⟨c0,c1,cf⟩:=zjx h
 have f0:=cf 0
 have f1:=cf 1
 have HP:=Z7 (StP.refl h)
 obtain⟨p,er⟩:=s
 dsimp only at c0 c1;by_cases he:er=0
 ·subst he;have hp:p≤d.length:=hs rfl
  rw[zgg];have HR:=Z7 (zu5 d p w hd hp)
  generalize readN d p=R at*;obtain⟨n,q,er⟩:=R
  dsimp only at*;clear hs h;go_enter Tryz.func107,Tryz.ntmps107;go_wp2_with fail;refine HR.out.mono ?_;rintro e w2 ⟨rfl,rfl⟩;go_wp2_with fail;go_ret;exact⟨rfl,(HP.out.set0 rfl).set1 rfl⟩
 ·have hN:zcg d (p,er)=([],(p,er)):=zAm he
  have f2:((er:Int)==0)=false:=zbm he
  have f3:((er:Int)!=0)=true:=by rw[bne,f2];rfl
  have f4:¬(er:Int)=0:=by omega
  rw[hN];clear hN hs h he;go_enter Tryz.func107,Tryz.ntmps107;go_wp2_with fail;go_ret;exact⟨rfl,HP.out⟩
structure StC (cp:Nat) (d:List UInt8) (p:Nat) (w w':World):Prop where
 row:w'.heap[cp]? =some (.cells (zbn d p) 332)
 kept:KeptB cp cp w w'
 below:Below cp w w'
theorem zie {w:World} {cp p:Nat} {d:List UInt8} (h:w.heap[cp]? =some (.cells (zbn d p) 332)):w.cell? ⟨cp,0,none⟩=some (S d)∧w.cell? ⟨cp,1,none⟩=some (.int .i64 (p:Int))∧w.frozen? ⟨cp,1,none⟩=false:=by
 refine⟨?_,?_,?_⟩<;>simp[World.cell?,World.frozen?,h]
theorem StC.set {w w1:World} {cp p:Nat} {d:List UInt8} (h:w.heap[cp]? =some (.cells (zbn d p) 332)) (hE:Ext w w1) {m:Int} {k:Nat} (e:m=(k:Int)):StC cp d k w (w1.setCell ⟨cp,1,none⟩ (.int .i64 m)):=by
 subst e;have hz:=(Z9 h)
 have h':=(hE.block cp hz).trans h
 exact⟨za2 h' 1 _,(KeptB.ext hE).trans (KeptB.set w1 1 _),(hE.mono (show cp≤w.heap.size by omega)).setCell (Z4 _) _⟩
theorem znk {w:World} {cp p v p':Nat} {d:List UInt8} (h:w.heap[cp]? =some (.cells (zbn d p) 332)) (hd:d.length≤1048576) (hn:zal 2 d p=.ok (v,p')):
 Calls Tryz.prog 219 #[.pointer (some ⟨cp,0,none⟩),.int .i64 2] w fun e w'=>e=.returned (.tuple #[.int .u64 (v:Int),.int .i64 0])∧StC cp d p' w w':=by
 obtain⟨h1,h2,h3⟩:=zc2 hn
 obtain⟨c0,c1,cf⟩:=zie h
 have mr:IntKind.i64.wrap ((d.length:Int) - (p:Int))=(d.length:Int) - (p:Int):=IntWalk.i64_in _ (by omega)
 have ab:¬(d.length:Int) - (p:Int)<2:=by omega
 have HS:=Z7 (fun w1 (hE:Ext w w1)=>StC.set h hE (m:=(p:Int)+2) (k:=p') (by omega))
 have bI:IntKind.i64.wrap ((p:Int)+2)=(p:Int)+2:=IntWalk.i64_in _ (by omega)
 rw[h3];clear h hn h1 h3;go_enter Tryz.func219,Tryz.ntmps219;go_wp2_with fail;go_region
 (try simp only[Exit.inBlock,Exit.then])
 go_wp2_with fail
 go_loopw [6,7] (fun v i wr=>∃j:Nat,j≤2∧i=.int .i64 j∧v=.int .u64 (be ((d.drop p).take j):Nat)∧Ext w wr) (fun _ i _=>2 - (intOf i).toNat)
 case atStart=>exact⟨0,by omega,rfl,rfl,(Z5 _).drew⟩
 case round=>
  obtain⟨j,hj,rfl,rfl,hE⟩:=hrel
  obtain⟨wo,rfl⟩:∃wo:World,wo=wr:=⟨_,rfl⟩
  have hz:cp<w.heap.size:=by
   by_cases hz:cp<w.heap.size
   ·exact hz
   ·simp[World.cell?,Array.getElem?_eq_none (by omega:w.heap.size≤cp)]at c0
  have d0:=(hE.cell (p:=⟨cp,0,none⟩) hz).trans c0
  have d1:=(hE.cell (p:=⟨cp,1,none⟩) hz).trans c1
  have df:=(hE.frozen (p:=⟨cp,1,none⟩) hz).trans cf
  by_cases ce:j<2
  ·have xu:p+j<d.length:=by omega
   obtain⟨c,Hb,cg,dp,aB⟩:=zbu d (p+j) xu
   have bO:=Z7 (zsk d p j xu)
   have hx:=zlf d p j (by omega)
   have qF:(j:Int)<2:=by omega
   generalize be ((d.drop p).take j)=x at*;have lL:IntKind.u64.wrap (256*(x:Int))=256*(x:Int):=zj8 (by omega) (by omega)
   have kp:IntKind.u64.wrap (c.toNat:Int)=(c.toNat:Int):=zul c
   have Bh:IntKind.u64.wrap (256*(x:Int)+(c.toNat:Int))=256*(x:Int)+(c.toNat:Int):=zj8 (by omega) (by omega)
   have et:((p:Int)+(j:Int)).toNat=p+j:=by omega
   have Ch:(p:Int)+(j:Int)<(d.length:Int):=by omega
   have co:IntKind.i64.wrap ((p:Int)+(j:Int))=(p:Int)+(j:Int):=IntWalk.i64_in _ (by omega)
   go_wp2_with fail;go_region
   (try simp only[Exit.inBlock,Exit.then])
   go_wp2_with fail;go_roundw
   case rel=>exact⟨j+1,by omega,by go_num,by rw[bO.out,Hb.out];push_cast;rw[Int.mul_comm],hE.drew⟩
   case measure=>simp[intOf];omega
  ·obtain rfl:j=2:=by omega
   go_wp2_with fail
   go_ret2
   exact⟨rfl,HS.out _ hE⟩
theorem zk6 {w:World} {cp p x:Nat} {d:List UInt8} (h:w.heap[cp]? =some (.cells (zbn d p) 332)) (hd:d.length≤1048576) (hp:p≤d.length) (hn:zal 2 d p=.error x):
 Calls Tryz.prog 219 #[.pointer (some ⟨cp,0,none⟩),.int .i64 2] w fun e w'=>e=.returned (.tuple #[.int .u64 0,.int .i64 4])∧Ext w w':=by
 obtain⟨h1,h2⟩:=zcv hn
 obtain⟨c0,c1,cf⟩:=zie h
 have mr:IntKind.i64.wrap ((d.length:Int) - (p:Int))=(d.length:Int) - (p:Int):=IntWalk.i64_in _ (by omega)
 have ab:(d.length:Int) - (p:Int)<2:=by omega
 clear h hn;go_enter Tryz.func219,Tryz.ntmps219;go_wp2_with fail;go_region
 (try simp only[Exit.inBlock,Exit.then])
 go_wp2_with fail
 go_ret2
 exact⟨rfl,(Z5 _).drew⟩
theorem zB7 {w:World} {cp p:Nat} {d:List UInt8} (m:Nat) (h:w.heap[cp]? =some (.cells (zbn d p) 332)) (hd:d.length≤1048576) (hm:p+m≤d.length):
 Calls Tryz.prog 220 #[.pointer (some ⟨cp,0,none⟩),.int .i64 m] w fun e w'=>e=.returned (.tuple #[S ((d.drop p).take m),.int .i64 0])∧StC cp d (p+m) w w':=by
 obtain⟨c0,c1,cf⟩:=zie h
 have mr:IntKind.i64.wrap ((d.length:Int) - (p:Int))=(d.length:Int) - (p:Int):=IntWalk.i64_in _ (by omega)
 have ab:¬(d.length:Int) - (p:Int)<(m:Int):=by omega
 have h0:¬(m:Int)<0:=by omega
 have co:IntKind.i64.wrap ((p:Int)+(m:Int))=(p:Int)+(m:Int):=IntWalk.i64_in _ (by omega)
 have e1:((p:Int)+(m:Int)).toNat=p+m:=by omega
 have e2:(0:Int)≤(p:Int):=by omega
 have e3:(p:Int)≤(p:Int)+(m:Int):=by omega
 have e4:(p:Int)+(m:Int)≤(d.length:Int):=by omega
 have HS:=Z7 (fun w1 (hE:Ext w w1)=>StC.set h hE (m:=(p:Int)+(m:Int)) (k:=p+m) (by omega))
 clear h;go_enter Tryz.func220,Tryz.ntmps220;go_wp2_with fail;go_region
 (try simp only[Exit.inBlock,Exit.then])
 go_wp2_with fail;go_region
 (try simp only[Exit.inBlock,Exit.then])
 go_wp2_with fail
 go_ret2
 exact⟨rfl,HS.out _ (Z5 _).drew.drew⟩
theorem zu2 {w:World} {cp p:Nat} {d:List UInt8} (m:Nat) (h:w.heap[cp]? =some (.cells (zbn d p) 332)) (hd:d.length≤1048576) (hp:p≤d.length) (hm:d.length<p+m):
 Calls Tryz.prog 220 #[.pointer (some ⟨cp,0,none⟩),.int .i64 m] w fun e w'=>e=.returned (.tuple #[S [],.int .i64 4])∧Ext w w':=by
 obtain⟨c0,c1,cf⟩:=zie h
 have mr:IntKind.i64.wrap ((d.length:Int) - (p:Int))=(d.length:Int) - (p:Int):=IntWalk.i64_in _ (by omega)
 have ab:(d.length:Int) - (p:Int)<(m:Int):=by omega
 have h0:¬(m:Int)<0:=by omega
 clear h;go_enter Tryz.func220,Tryz.ntmps220;go_wp2_with fail;go_region
 (try simp only[Exit.inBlock,Exit.then])
 go_wp2_with fail
 go_ret2
 exact⟨rfl,(Z5 _).drew⟩
def zFy (R:List Pc×Nat) (w:World) (e:Ending) (w':World):Prop:=
 ((R.2=0∧e=.returned (.tuple #[S (textOf R.1),.int .i64 0]))∨(R.2≠0∧∃k:Nat,k≠0∧e=.returned (.tuple #[S [],.int .i64 (k:Int)])))∧Ext w w'
theorem zBa (msg:List UInt8) (at_ n:Nat) (kind:Int) (w:World) (hl:msg.length≤1048576) (hn:at_+n≤msg.length):
 Calls Tryz.prog 169 #[S msg,.int .i64 at_,.int .i64 n,.int .u16 kind] w (zFy (splitOf (msg.take (at_+n)) at_ kind) w):=by
 have ab:(msg.take (at_+n)).length=at_+n:=by rw[List.length_take];omega
 have Hs:=Z7 (zpg (msg.take (at_+n)) at_ kind w (by omega) (by omega))
 have aB:=zip (msg.take (at_+n)) at_ kind
 have oQ:=zhz (msg.take (at_+n)) at_ kind (by omega)
 generalize splitOf (msg.take (at_+n)) at_ kind=R0 at*;generalize refPieces (msg.take (at_+n)) at_ kind=R at*;obtain⟨l,er⟩:=R
 obtain⟨l0,er0⟩:=R0
 obtain⟨hz,Ci⟩:=oQ
 dsimp only at*;rw[ab]at aB;have h1:¬(at_:Int)<0:=by omega
 have h2:¬(n:Int)<0:=by omega
 have h3:¬(msg.length:Int)<(at_:Int):=by omega
 have hs:IntKind.i64.wrap ((msg.length:Int) - at_)=(msg.length:Int) - at_:=IntWalk.i64_in _ (by omega)
 have iF:IntKind.i64.wrap ((at_:Int)+n)=(at_:Int)+n:=IntWalk.i64_in _ (by omega)
 have h4:¬((msg.length:Int) - at_<n):=by omega
 have e2:((at_:Int)+n).toNat=at_+n:=by omega
 have e3:(0:Int)≤(at_:Int)+n:=by omega
 have e4:(at_:Int)+n≤msg.length:=by omega
 have Hb:=Z7 (show l.length≤4∧∀p∈l,p.s.length≤2097152 from⟨aB.1,fun p hp=>Z2 (aB.2 p hp) (by omega)⟩)
 clear aB ab hl hn;by_cases aJ:er=0
 ·subst aJ;have AR:=Z7 (hz.2 rfl)
  have Ht:=Z7 (Ci (hz.2 rfl)).1
  clear hz Ci;go_enter Tryz.func169,Tryz.ntmps169;go_wp2_with fail;refine Hs.out.mono ?_;rintro e w1 ⟨v,rfl,hP,ae⟩;go_wp2_with fail;refine(zl2 _ v l w1 hP Hb.out.1 Hb.out.2).mono ?_;rintro e w2 ⟨rfl,rfl⟩;go_wp2_with fail
  go_ret2
  exact⟨.inl ⟨AR.out,by show _=Ending.returned (.tuple #[S (textOf l0),_]);rw[Ht.out];rfl⟩,ae⟩
 ·have f1:((er:Int)==0)=false:=zbm aJ
  have f2:((er:Int)!=0)=true:=by rw[bne,f1];rfl
  have ig:=Z7 aJ
  have Cj:=Z7 (fun h=>aJ (hz.1 h))
  clear aJ hz Ci;go_enter Tryz.func169,Tryz.ntmps169;go_wp2_with fail;refine Hs.out.mono ?_;rintro e w1 ⟨v,rfl,hP,ae⟩;go_wp2_with fail
  go_ret2
  exact⟨.inr ⟨Cj.out,er,ig.out,rfl⟩,ae⟩
def zy9:Option Value→Nat
 |some (.int _ i)=>i.toNat
 |_=>0
abbrev zg9 (cls ttl:Nat) (o:Value):Array Value:= #[.int .u16 (cls:Int),.int .u8 ((ttl:Int)/16777216),.int .u8 ((ttl:Int)/65536%256),.int .u16 ((ttl:Int)%65536),o]
structure EdInvR (W:World) (b8 cp:Nat) (cls ttl:Nat) (d:List UInt8) (R:Except Nat (List OpD)) (p f:Nat) (l:List OpD) (A:Option Addr) (c:Nat) (wr:World):Prop where
 pd:p≤d.length
 lp:l.length≤p
 row:wr.heap[cp]? =some (.cells (zbn d p) 332)
 box:wr.heap[b8]? =some (.cells (zg9 cls ttl (.slice A l.length c)) 43)
 own:Own wr (cp+1) 182 2 A l.length c (l.flatMap zcw)
 ext:Ext W wr
 fu:(d.drop p).length<f
 eq:R=zfq l (zdm f (d.drop p))
theorem EdInvR.pos {W wr:World} {b8 cp cls ttl p f c:Nat} {d:List UInt8} {R:Except Nat (List OpD)} {l:List OpD} {A:Option Addr} (h:EdInvR W b8 cp cls ttl d R p f l A c wr):zy9 (wr.cell? ⟨cp,1,none⟩)=p:=by
 rw[(zie h.row).2.1];exact Int.toNat_natCast _
theorem zBc (cls ttl:Nat) (d:List UInt8) (w:World) (hd:d.length≤1048576) (hc:cls≤65535) (ht:ttl≤4294967295):
 Calls Tryz.prog 168 #[.int .u16 (cls:Int),.int .u32 (ttl:Int),S d] w (zvy (edR cls ttl d) w):=by
 obtain⟨R,hR⟩:∃R,R=zqa d:=⟨_,rfl⟩
 have kj:=Z7 (show edR cls ttl d=zCp cls ttl R by rw[hR,zwc])
 have HR:=Z7 hR
 clear hR;obtain⟨i0,aH,aF,aC,ax⟩:=info_parts zt8
 obtain⟨W,hW⟩:∃W,W=w.alloc (.cells #[.int .u16 0,.int .u8 0,.int .u8 0,.int .u16 0,.slice none 0 0] 43):=⟨_,rfl⟩
 have dC:Ext w W:=by rw[hW];exact(Z5 _).alloc _
 have r0:W.heap[w.heap.size]? =some (.cells #[.int .u16 0,.int .u8 0,.int .u8 0,.int .u16 0,.slice none 0 0] 43):=by rw[hW];exact heap_alloc_new _ _
 go_enter Tryz.func168,Tryz.ntmps168;go_upto_region 1 with fail
 rw[←hW];clear hW;go_upto_region 3 with fail
 obtain⟨X,hX⟩:∃X,X=(W.alloc (.cells (zg9 cls ttl (.slice none 0 0)) 43)).alloc (.cells (zbn d 0) 332):=⟨_,rfl⟩
 have El:(W.alloc (.cells #[.int .u16 (cls:Int),.int .u8 ((ttl:Int)/16777216),.int .u8 ((ttl:Int)/65536%256),.int .u16 ((ttl:Int)%65536),.slice none 0 0] 43)).alloc (.cells #[S d,.int .i64 0] 332)=X:=hX.symm
 obtain⟨b8,Ck⟩:∃b8,b8=W.heap.size:=⟨_,rfl⟩
 obtain⟨cp,fE⟩:∃cp,cp=W.heap.size+1:=⟨_,rfl⟩
 have x0:=heap_alloc_new W (.cells (zg9 cls ttl (.slice none 0 0)) 43)
 have x1:X.heap[b8]? =some (.cells (zg9 cls ttl (.slice none 0 0)) 43):=by rw[hX,Ck];exact(heap_alloc_old _ _ (Z9 x0)).trans x0
 have x2:X.heap[cp]? =some (.cells (zbn d 0) 332):=by rw[hX,fE];exact heap_alloc2_new W _ _
 have Cl:Ext W X:=by rw[hX];exact((Z5 _).alloc _).alloc _
 have nd:b8<cp:=by omega
 have Kf:W.heap.size≤b8:=by omega
 have dp:w.heap.size<W.heap.size:=(Z9 r0)
 rw[El,←fE,←Ck];clear hX El fE Ck x0
 go_loopw [10] (fun _ wr=>∃(p f:Nat) (l:List OpD) (A:Option Addr) (c:Nat),EdInvR W b8 cp cls ttl d R p f l A c wr) (fun _ wr=>d.length - zy9 (wr.cell? ⟨cp,1,none⟩))
 case atStart=>exact⟨0,d.length+1,[],none,0,⟨Nat.zero_le _,by simp,x2,x1,Own.nil _ _ _ _,Cl,by rw[List.drop_zero];omega,by rw[HR.out,zr4,List.drop_zero];rfl⟩⟩
 case round=>
  obtain⟨p,f,l,A,c,hI⟩:=hrel
  obtain⟨wo,rfl⟩:∃wo:World,wo=wr:=⟨_,rfl⟩
  have pF:=hI.lp
  have ji:=hI.pd
  have iV:=Z7 hI.pos
  obtain⟨c0,c1,cf⟩:=zie hI.row
  by_cases ab:p<d.length
  ·have nW:(p:Int)<(d.length:Int):=by omega
   have kt:=Z7 (ztm ab hI.fu)
   have bI:Ext w wo:=dC.trans hI.ext
   have R0:=Z7 (fun V (hV:Ext W V)=>Z8 hV r0)
   rcases h1:zal 2 d p with x|⟨v1,p1⟩
   ·obtain⟨rfl,cZ⟩:=zcv h1
    have HT:=Z7 (zk6 hI.row hd ji h1)
    have HF:=Z7 (show R=.error 4 by
     rw[hI.eq];rcases kt.out with⟨_,h⟩|⟨h,_⟩|⟨h,_⟩
     ·rw[h];rfl
     ·omega
     ·omega)
    clear h1;go_wp2_with fail;refine HT.out.mono ?_;rintro e w3 ⟨rfl,ao⟩;go_upto_region 6 with fail
    refine wp_region_lit ?_
    repeat(first
     |(refine Go.wpList_store_rowTo rfl 43 (.tmp 6) (.tmp 43) rfl rfl w.heap.size #[.int .u16 0,.int .u8 0,.int .u8 0,.int .u16 0,.slice none 0 0] rfl rfl 43 _ (R0.out _ (hI.ext.trans ao)) (by kernel_rfl) rfl (by kernel_rfl) ?_)
     |go_step)
    (try simp only[Exit.inBlock,Exit.then])
    refine bodyPost_ret (zas rfl _ _ w.heap.size _ _ _ _ rfl (setRow_heap w3 w.heap.size _ _ _ _ (R0.out _ (hI.ext.trans ao))) Tryz.underlying43 rfl (by kernel_rfl)) rfl ?_
    exact⟨.inl ⟨4,by rw[kj.out,HF.out];rfl,rfl⟩,Below.grown (bI.trans ao) (zak w3 _ _) (bI.trans ao).size (fun k hk=>by injection hk with hk;omega)⟩
   ·obtain⟨e1,rg,ku⟩:=zc2 h1
    have cQ:=zck h1
    have HT:=Z7 (znk hI.row hd h1)
    have AA:=Z7 (show v1=n16 d p from ku)
    subst e1;clear h1 ku;go_wp2_with fail;refine HT.out.mono ?_;rintro e w3 ⟨rfl,dI⟩;have dJ:=dI.row
    have xw:=dI.kept.row hI.box (by omega) (by omega)
    have bK:Ext W w3:=hI.ext.then dI.below (by omega)
    have kN:Ext w w3:=dC.trans bK
    have eN:=hI.own.keptB dI.kept (by omega) (by omega)
    clear dI;rcases h2:zal 2 d (p+2)with x|⟨v2,p2⟩
    ·obtain⟨rfl,cZ⟩:=zcv h2
     have lQ:=Z7 (zk6 dJ hd rg h2)
     have HF:=Z7 (show R=.error 4 by
      rw[hI.eq];rcases kt.out with⟨_,h⟩|⟨h,_⟩|⟨h,_⟩
      ·rw[h];rfl
      ·omega
      ·omega)
     clear h2;go_wp2_with fail;refine lQ.out.mono ?_;rintro e w4 ⟨rfl,aL⟩;go_upto_region 9 with fail
     refine wp_region_lit ?_
     repeat(first
      |(refine Go.wpList_store_rowTo rfl 43 (.tmp 6) (.tmp 52) rfl rfl w.heap.size #[.int .u16 0,.int .u8 0,.int .u8 0,.int .u16 0,.slice none 0 0] rfl rfl 43 _ (R0.out _ (bK.trans aL)) (by kernel_rfl) rfl (by kernel_rfl) ?_)
      |go_step)
     (try simp only[Exit.inBlock,Exit.then])
     refine bodyPost_ret (zas rfl _ _ w.heap.size _ _ _ _ rfl (setRow_heap w4 w.heap.size _ _ _ _ (R0.out _ (bK.trans aL))) Tryz.underlying43 rfl (by kernel_rfl)) rfl ?_
     exact⟨.inl ⟨4,by rw[kj.out,HF.out];rfl,rfl⟩,Below.grown (kN.trans aL) (zak w4 _ _) (kN.trans aL).size (fun k hk=>by injection hk with hk;omega)⟩
    ·obtain⟨e2,ri,k8⟩:=zc2 h2
     have cj:=zck h2
     have lQ:=Z7 (znk dJ hd h2)
     have AB:=Z7 (show v2=n16 d (p+2)from k8)
     subst e2;clear h2 k8;rw[←AB.out]at kt;go_wp2_with fail;refine lQ.out.mono ?_;rintro e w4 ⟨rfl,fF⟩;have bv:=fF.row
     have xy:=fF.kept.row xw (by omega) (by omega)
     have bE:Ext W w4:=bK.then fF.below (by omega)
     have pG:Ext w w4:=dC.trans bE
     have cL:=eN.keptB fF.kept (by omega) (by omega)
     have IG:IntKind.i64.wrap (v2:Int)=(v2:Int):=IntWalk.i64_in _ (by omega)
     clear fF;by_cases h3:d.length<p+2+2+v2
     ·have oi:=Z7 (zu2 v2 bv hd ri h3)
      have HF:=Z7 (show R=.error 4 by
       rw[hI.eq];rcases kt.out with⟨h,_⟩|⟨_,_,h⟩|⟨h,_⟩
       ·omega
       ·rw[h];rfl
       ·omega)
      clear h3;go_wp2_with fail;refine oi.out.mono ?_;rintro e w5 ⟨rfl,am⟩;go_upto_region 12 with fail
      refine wp_region_lit ?_
      repeat(first
       |(refine Go.wpList_store_rowTo rfl 43 (.tmp 6) (.tmp 63) rfl rfl w.heap.size #[.int .u16 0,.int .u8 0,.int .u8 0,.int .u16 0,.slice none 0 0] rfl rfl 43 _ (R0.out _ (bE.trans am)) (by kernel_rfl) rfl (by kernel_rfl) ?_)
       |go_step)
      (try simp only[Exit.inBlock,Exit.then])
      refine bodyPost_ret (zas rfl _ _ w.heap.size _ _ _ _ rfl (setRow_heap w5 w.heap.size _ _ _ _ (R0.out _ (bE.trans am))) Tryz.underlying43 rfl (by kernel_rfl)) rfl ?_
      exact⟨.inl ⟨4,by rw[kj.out,HF.out];rfl,rfl⟩,Below.grown (pG.trans am) (zak w5 _ _) (pG.trans am).size (fun k hk=>by injection hk with hk;omega)⟩
     ·have oi:=Z7 (zB7 v2 bv hd (by omega))
      obtain⟨f',AC,ii⟩:∃f',(d.drop (p+4+v2)).length<f'∧∀l,zfq l (zdm f (d.drop p))=zfq (l++[⟨n16 d p,(d.drop (p+4)).take v2⟩]) (zdm f' (d.drop (p+4+v2))):=by
       rcases kt.out with⟨h,_⟩|⟨_,h,_⟩|⟨_,h⟩
       ·omega
       ·omega
       ·exact h
      have HF:=Z7 (hI.eq.trans (ii l))
      rw[←AA.out]at HF;have rj:p+2+2=p+4:=by omega
      rw[rj]at oi;clear rj ii kt;go_wp2_with fail;refine oi.out.mono ?_;rintro e w5 ⟨rfl,fG⟩;have dK:=fG.row
      have ms:=fG.kept.row xy (by omega) (by omega)
      have gJ:Ext W w5:=bE.then fG.below (by omega)
      have ai:=cL.keptB fG.kept (by omega) (by omega)
      have rk:=(Z9 dK)
      have z4:=za0 (j:=4) ms rfl
      have u1:IntKind.u16.wrap (v1:Int)=(v1:Int):=Int.emod_eq_of_lt (by omega) (by show _<(65536:Int);omega)
      clear fG c0 c1 cf;generalize (d.drop (p+4)).take v2=od at*;go_wp2_with(first
       |(at_builtin
         refine zad _ rfl (.tmp 66) (.tmp 71) _ rfl (cp+1) 182 i0 _ 2 24 Tryz.underlying41 aH aF aC ax rfl (by omega) A l.length c (l.flatMap zcw) rfl (ai.ext ((Z5 _).alloc _)) 0 _ 1 1 (zcw ⟨v1,od⟩) rfl (zaw _ _ (by simp) _ _ 1 2 rfl) (zAo _) (by omega) (by omega) (by simp;omega) ?_
         intro A6 c6 w6 aQ dG dT dH;have mt:w6.heap[b8]? =some (.cells (zg9 cls ttl (.slice A l.length c)) 43):=(dT.block b8 (by omega)).trans ((heap_alloc_old _ _ (Z9 ms)).trans ms)
         have j4:=za0 (j:=4) mt rfl
         have g4:=za3 (j:=4) mt)
       |fail)
      have jO:w6.heap[cp]? =some (.cells (zbn d (p+4+v2)) 332):=(dT.block cp (by omega)).trans ((heap_alloc_old _ _ rk).trans dK)
      have gf:Ext W w6:=(gJ.alloc _).then dT (by omega)
      go_roundw
      case rel=>
       refine⟨p+4+v2,f',l++[⟨v1,od⟩],A6,c6,⟨by omega,by simp;omega,(Below.heap_setCell w6 ⟨b8,4,none⟩ _ cp (by dsimp only;omega)).trans jO,?_,?_,gf.setCell (by dsimp only;omega) _,AC,HF.out⟩⟩
       ·rw[Z6];exact za2 mt 4 _
       ·have:=aQ.set_other (p:=⟨b8,4,none⟩) (by dsimp only;omega) (.slice A6 (l.length+1) c6)
        simpa using this
      case measure=>
       have hn:zy9 ((w6.setCell ⟨b8,4,none⟩ (.slice A6 (l.length+1) c6)).cell? ⟨cp,1,none⟩)=p+4+v2:=by
        have h:=(Below.heap_setCell w6 ⟨b8,4,none⟩ (.slice A6 (l.length+1) c6) cp (by dsimp only;omega)).trans jO
        rw[(zie h).2.1];exact Int.toNat_natCast _
       rw[iV.out];refine Nat.lt_of_le_of_lt (Nat.le_of_eq (congrArg (d.length - ·) hn)) ?_
       (try dsimp only)
       omega
  ·have HF:=Z7 (show R=.ok l by
    have eV:d.drop p=[]:=List.drop_of_length_le (by omega)
    have FU:=hI.fu
    rw[hI.eq,eV,zwm f (by omega)]
    simp[zfq])
   have ce:¬(p:Int)<(d.length:Int):=by omega
   have R0:=Z8 hI.ext r0
   have bo:=hI.own.cap
   have ix:=hI.box
   go_upto_region 14 with fail
   refine wp_region_lit ?_
   repeat(first
    |(refine zaz (by rfl) 43 (.tmp 8) rfl b8 rfl _ (zg9 cls ttl (.slice A l.length c)) _ _ ix Tryz.underlying43 rfl (by kernel_rfl) ?_)
    |(refine Go.wpList_store_rowTo rfl 43 (.tmp 6) (.tmp 74) rfl rfl w.heap.size (zg9 cls ttl (.slice A l.length c)) rfl rfl 43 _ R0 (by kernel_rfl) rfl (by kernel_rfl) ?_)
    |go_step)
   (try simp only[Exit.inBlock,Exit.then])
   refine bodyPost_ret (zas rfl _ _ w.heap.size _ _ _ _ rfl (setRow_heap wo w.heap.size _ _ _ _ R0) Tryz.underlying43 rfl (by kernel_rfl)) rfl ?_
   have bI:=dC.trans hI.ext
   have hk:Own (wo.setRow w.heap.size (zg9 cls ttl (.slice A l.length c))) (cp+1) 182 2 A l.length c (l.flatMap zcw):=
    hI.own.kept (zak wo _ _) (.inr fun he=>by have:=(hI.own.blk _ he).1;omega)
   refine⟨.inr ⟨⟨cls,(ttl/16777216:Nat),(ttl/65536%256:Nat),(ttl%65536:Nat),l⟩,.slice A l.length c,by rw[kj.out,HF.out];rfl,?_,⟨A,c,rfl,bo.1,bo.2,hk.rd.lower (by omega),fun k iJ=>?_⟩⟩,Below.grown bI (zak wo _ _) bI.size (fun k hk=>by injection hk with hk;omega)⟩
   ·have e1:(ttl:Int)/16777216=((ttl/16777216:Nat):Int):=by omega
    have e2:(ttl:Int)/65536%256=((ttl/65536%256:Nat):Int):=by omega
    have e3:(ttl:Int)%65536=((ttl%65536:Nat):Int):=by omega
    unfold zg9;rw[e1,e2,e3];rfl
   ·obtain⟨cur,hc⟩:=hk.row k iJ
    exact⟨by have:=(hk.blk k iJ).1;omega,cur,_,hc⟩
abbrev zbw (h:HdD) (q a u x:Value) (he:Bool) (e:EdD) (o:Value):Array Value:= #[.int .u16 h.id,.bool h.qr,.int .u8 h.op,.bool h.aa,.bool h.tc,.bool h.rd,.bool h.ra,.bool h.z,.bool h.ad,.bool h.cd,.int .u8 h.code,q,a,u,x,.bool he,.int .u16 e.size,.int .u8 e.ext,.int .u8 e.ver,.int .u16 e.flags,o]
abbrev rcC (r:RecD):Array Value:= #[S r.name,.int .u16 r.typ,.int .u16 r.cls,.int .u32 r.ttl,S r.data]
theorem GoP.rowNew {w w1:World} {lo g pp b:Nat} {M:Array Value} {s:Nat×Nat} (h:GoP lo g pp M s w w1) (hz:g<w.heap.size∧pp<w.heap.size) (hb:w.heap.size≤b) (ak:lo≤w.heap.size) (cs:Array Value):GoP lo g pp M s w (w1.setRow b cs):=by
 have gr:=zak w1 b cs
 refine⟨(gr.block g h.lt.1 (fun e=>by injection e with e;omega)).trans h.box,(gr.block pp h.lt.2 (fun e=>by injection e with e;omega)).trans h.prt,h.ne,⟨Z2 h.kept.1 gr.size,fun k hk h1 h2=>(gr.block k (Z1 hk h.kept.1) (fun e=>by injection e with e;omega)).trans (h.kept.2 k hk h1 h2)⟩,?_⟩
 exact Below.grown h.below gr (Z2 ak h.kept.1) (fun k hk=>by injection hk with hk;omega)
theorem GoP.boxes {w w1:World} {lo g pp:Nat} {M:Array Value} {s:Nat×Nat} (h:GoP lo g pp M s w w1):w1.cell? ⟨pp,0,none⟩=some (.int .i64 (s.1:Int))∧w1.cell? ⟨pp,1,none⟩=some (.int .i64 (s.2:Int))∧w1.frozen? ⟨pp,0,none⟩=false∧w1.frozen? ⟨pp,1,none⟩=false:=
 ⟨(zjx h.prt).1,(zjx h.prt).2.1,(zjx h.prt).2.2 0,(zjx h.prt).2.2 1⟩
theorem zrv {w:World} {g o n:Nat} {cs:Array Value} {t:TypeId} (h:w.heap[g]? =some (.cells cs t)) (hn:o+n≤cs.size):w.there g o n:=fun j hj=>by
 have qI:o+j<cs.size:=by omega
 refine⟨?_,?_⟩
 ·simp[World.cell?,h,Array.getElem?_eq_getElem qI]
 ·simp[World.frozen?,h]
theorem GoP.setEd {w w1:World} {lo g pp:Nat} {hd:HdD} {q a u x o0:Value} {he:Bool} {e0:EdD} {s:Nat×Nat} (h:GoP lo g pp (zbw hd q a u x he e0 o0) s w w1) (ak:lo≤g) (e:EdD) (o:Value):GoP lo g pp (zbw hd q a u x he e o) s w (w1.setCells g 16 [.int .u16 e.size,.int .u8 e.ext,.int .u8 e.ver,.int .u16 e.flags,o]):=
 ((((h.setg 16 (.int .u16 e.size) ak).setg 17 (.int .u8 e.ext) ak).setg 18 (.int .u8 e.ver) ak).setg 19 (.int .u16 e.flags) ak).setg 20 o ak
theorem zgo (w:World) (g k:Nat) (hk:k≠g) (v0 v1 v2 v3 v4:Value):(w.setCells g 16 [v0,v1,v2,v3,v4]).heap[k]? =w.heap[k]? :=by
 have h:=fun(w:World) (j:Nat) (v:Value)=>Below.heap_setCell w ⟨g,j,none⟩ v k hk
 exact(h _ 20 v4).trans ((h _ 19 v3).trans ((h _ 18 v2).trans ((h _ 17 v1).trans (h w 16 v0))))
def RecP (lo g pp p:Nat) (d:List UInt8) (h:HdD) (q a u x o:Value) (ed:Option EdD) (more:Bool) (w:World) (e:Ending) (w':World):Prop:=
 ∃(r:RecD) (b:Bool) (s:Nat×Nat) (he:Bool) (ed':EdD) (o':Value),e=.returned (.tuple #[.agg (rcC r),.bool b])∧GoP lo g pp (zbw h q a u x he ed' o') s w w'∧
  ((s.2≠0∧∃y,zbd d more ed p=.error y)∨
   (s.2=0∧s.1≤d.length∧((b=true∧zbd d more ed p=.ok (some r,ed,s.1)∧he=ed.isSome∧ed'=ed.getD za8∧o'=o)∨
    (b=false∧∃y,zbd d more ed p=.ok (none,some y,s.1)∧he=true∧ed'=y∧OptsT w' w.heap.size o' y.opts))))
theorem zpt {v:Nat} (h:v<65536):IntKind.u16.wrap (v:Int)=(v:Int):=Int.emod_eq_of_lt (by omega) (by show _<(65536:Int);omega)
theorem zGp {v:Nat} (h:v<4294967296):IntKind.u32.wrap (v:Int)=(v:Int):=Int.emod_eq_of_lt (by omega) (by show _<(4294967296:Int);omega)
theorem zz5 {d:List UInt8} {more:Bool} {ed:Option EdD} {n:List UInt8} {ty cl tt sz p:Nat} (h:d.length<p+sz):zi0 d more ed n ty cl tt sz p=.error 4:=if_pos h
theorem zoi {d:List UInt8} {more:Bool} {ed:Option EdD} {n:List UInt8} {cl tt sz p:Nat} (h:¬d.length<p+sz) (h2:more=false∨ed.isSome=true∨n≠[0]):zi0 d more ed n 41 cl tt sz p=.error 3:=by unfold zi0;rw[if_neg h,if_pos rfl,if_pos h2]
theorem zFv {d:List UInt8} {more:Bool} {ed:Option EdD} {n:List UInt8} {cl tt sz p:Nat} (h:¬d.length<p+sz) (h2:¬(more=false∨ed.isSome=true∨n≠[0])):zi0 d more ed n 41 cl tt sz p=(match edR cl tt ((d.drop p).take sz)with| .error e=>.error e| .ok x=>.ok (none,some x,p+sz)):=by unfold zi0;rw[if_neg h,if_pos rfl,if_neg h2];try(cases edR cl tt ((d.drop p).take sz)<;>rfl)
theorem zE2 {d:List UInt8} {more:Bool} {ed:Option EdD} {n:List UInt8} {ty cl tt sz p:Nat} (h:¬d.length<p+sz) (h1:ty≠41):zi0 d more ed n ty cl tt sz p=(if(splitOf (d.take (p+sz)) p ty).2=0 then .ok (some ⟨n,ty,cl,tt,textOf (splitOf (d.take (p+sz)) p ty).1⟩,ed,p+sz)else .error (splitOf (d.take (p+sz)) p ty).2):=by unfold zi0;rw[if_neg h,if_neg h1]
theorem zjk (lo g pp p sec:Nat) (d:List UInt8) (h:HdD) (q a u x o:Value) (ed:Option EdD) (w:World) (ix:w.heap[g]? =some (.cells (zbw h q a u x ed.isSome (ed.getD za8) o) 45)) (sF:w.heap[pp]? =some (.cells (zhx (p,0)) 195)) (au:g≠pp) (jk:lo≤g) (ak:lo≤pp) (hp:p≤d.length) (hd:d.length≤65535):
 Calls Tryz.prog 109 #[.pointer (some ⟨pp,0,none⟩),S d,.pointer (some ⟨g,0,none⟩),.int .i64 (sec:Int)] w (RecP lo g pp p d h q a u x o ed (decide (sec=3)) w):=by
 have HC:=zGi d (decide (sec=3)) ed p
 have hO:=zGj hp
 obtain⟨n,s1,e1⟩:∃n s1,zcg d (p,0)=(n,s1):=⟨_,_,rfl⟩
 obtain⟨ty,s2,e2⟩:∃v s,zc9 2 d s1=(v,s):=⟨_,_,rfl⟩
 obtain⟨cl,s3,e3⟩:∃v s,zc9 2 d s2=(v,s):=⟨_,_,rfl⟩
 obtain⟨tt,s4,e4⟩:∃v s,zc9 4 d s3=(v,s):=⟨_,_,rfl⟩
 obtain⟨sz,s5,e5⟩:∃v s,zc9 2 d s4=(v,s):=⟨_,_,rfl⟩
 have hR:rcS d (p,0)=⟨n,ty,cl,tt,sz,s5⟩:=by unfold rcS;simp only[e1,e2,e3,e4,e5]
 rw[hR]at HC hO;dsimp only at HC hO;have o1:okS d s1:=by have:=zm1 (d:=d) (s:=(p,0)) (fun _=>hp);rw[e1]at this;exact this
 have o2:okS d s2:=by have:=zeg (k:=2) o1;rw[e2]at this;exact this
 have o3:okS d s3:=by have:=zeg (k:=2) o2;rw[e3]at this;exact this
 have o4:okS d s4:=by have:=zeg (k:=4) o3;rw[e4]at this;exact this
 have b1:ty<65536:=by have:=zi6 2 d s1 (by decide);rw[e2]at this;exact Z1 this (by decide)
 have b2:cl<65536:=by have:=zi6 2 d s2 (by decide);rw[e3]at this;exact Z1 this (by decide)
 have b3:tt<4294967296:=by have:=zi6 4 d s3 (by decide);rw[e4]at this;exact Z1 this (by decide)
 have b4:sz<65536:=by have:=zi6 2 d s4 (by decide);rw[e5]at this;exact Z1 this (by decide)
 have gn:d.length≤1048576:=by omega
 have C1:=Z7 (fun V hV=>zrj pp (p,0) d V hV gn (fun _=>hp))
 have C2:=Z7 (fun V hV=>zes pp 2 s1 d V hV gn (by decide) o1)
 have C3:=Z7 (fun V hV=>zes pp 2 s2 d V hV gn (by decide) o2)
 have C4:=Z7 (fun V hV=>zes pp 4 s3 d V hV gn (by decide) o3)
 have C5:=Z7 (fun V hV=>zes pp 2 s4 d V hV gn (by decide) o4)
 rw[e1]at C1;rw[e2]at C2;rw[e3]at C3;rw[e4]at C4;rw[e5]at C5;dsimp only at C1 C2 C3 C4 C5;have w1:=zpt b1
 have w2:=zpt b2
 have w3:=zGp b3
 have w4:IntKind.i64.wrap (sz:Int)=(sz:Int):=IntWalk.i64_in _ (by omega)
 clear hR e1 e2 e3 e4 e5 o1 o2 o3 o4;obtain⟨p5,er⟩:=s5
 have iy:g<w.heap.size∧pp<w.heap.size:=⟨(Z9 ix),(Z9 sF)⟩
 have ge:lo≤w.heap.size:=by omega
 obtain⟨W1,kh⟩:∃W,W=w.alloc (.cells #[.string ⟨#[]⟩,.int .u16 0,.int .u16 0,.int .u32 0,.string ⟨#[]⟩] 99):=⟨_,rfl⟩
 obtain⟨X,hX⟩:∃W,W=W1.alloc (.cells #[.string ⟨#[]⟩,.int .u16 0,.int .u16 0,.int .u32 0,.string ⟨#[]⟩] 99):=⟨_,rfl⟩
 obtain⟨b,hb⟩:∃b,b=w.heap.size:=⟨_,rfl⟩
 obtain⟨c,hc⟩:∃c,c=w.heap.size+1:=⟨_,rfl⟩
 have nd:b<c:=by omega
 have t8:W1.heap[b]? =some (.cells #[.string ⟨#[]⟩,.int .u16 0,.int .u16 0,.int .u32 0,.string ⟨#[]⟩] 99):=by rw[kh,hb];exact heap_alloc_new _ _
 have t10:X.heap[c]? =some (.cells #[.string ⟨#[]⟩,.int .u16 0,.int .u16 0,.int .u32 0,.string ⟨#[]⟩] 99):=by
  have h1:=heap_alloc_new W1 (.cells #[.string ⟨#[]⟩,.int .u16 0,.int .u16 0,.int .u32 0,.string ⟨#[]⟩] 99)
  rw[show W1.heap.size=c by rw[kh,hc];simp,←hX]at h1
  exact h1
 have gh:Ext W1 X:=by rw[hX];exact(Z5 _).alloc _
 have r8:=Z8 gh t8
 have bF:Ext w X:=by rw[hX,kh];exact((Z5 _).alloc _).alloc _
 have G:GoP lo g pp (zbw h q a u x ed.isSome (ed.getD za8) o) (p,0) w X:=(GoP.refl ix sF au).ext bF ge
 have jy:b≠g:=by omega
 have iz:b≠pp:=by omega
 have qh:c≠g:=by omega
 have fE:c≠pp:=by omega
 have dp:w.heap.size≤b:=by omega
 have mV:w.heap.size≤c:=by omega
 go_enter Tryz.func109,Tryz.ntmps109;go_upto_region 2 with fail
 rw[←kh,←hX,←hc,←hb];clear hX kh hc hb t8 gh bF ix sF;have r10:=t10
 clear t10;go_wp2_with fail;refine(C1.out _ G.prt).mono ?_;rintro e v1 ⟨rfl,hs⟩;have r8:=hs.kept.row r8 iz iz
 have r10:=hs.kept.row r10 fE fE
 have G:=G.st hs ak
 clear hs;have cc:=za0 (j:=0) r10 rfl
 have fc:=za3 (j:=0) r10
 go_upto_region 3 with fail
 have G:=G.setNew iy ak mV 0 (S n)
 have r8:=(Below.heap_setCell v1 ⟨c,0,none⟩ (S n) b (by dsimp only;omega)).trans r8
 have r10:(v1.setCell ⟨c,0,none⟩ (S n)).heap[c]? =some (.cells #[S n,.int .u16 0,.int .u16 0,.int .u32 0,.string ⟨#[]⟩] 99):=za2 r10 0 _
 clear cc fc;obtain⟨V1,hV⟩:∃V,V=v1.setCell ⟨c,0,none⟩ (S n):=⟨_,rfl⟩
 rw[←hV]at G r8 r10 ⊢;clear hV;go_wp2_with fail;refine(C2.out _ G.prt).mono ?_;rintro e v2 ⟨rfl,hs⟩;have r8:=hs.kept.row r8 iz iz
 have r10:=hs.kept.row r10 fE fE
 have G:=G.st hs ak
 clear hs;have cc:=za0 (j:=1) r10 rfl
 have fc:=za3 (j:=1) r10
 go_upto_region 4 with fail
 have G:=G.setNew iy ak mV 1 (.int .u16 (ty:Int))
 have r8:=(Below.heap_setCell v2 ⟨c,1,none⟩ (.int .u16 (ty:Int)) b (by dsimp only;omega)).trans r8
 have r10:(v2.setCell ⟨c,1,none⟩ (.int .u16 (ty:Int))).heap[c]? =some (.cells #[S n,.int .u16 (ty:Int),.int .u16 0,.int .u32 0,.string ⟨#[]⟩] 99):=za2 r10 1 _
 clear cc fc;obtain⟨V2,hV⟩:∃V,V=v2.setCell ⟨c,1,none⟩ (.int .u16 (ty:Int)):=⟨_,rfl⟩
 rw[←hV]at G r8 r10 ⊢;clear hV;go_wp2_with fail;refine(C3.out _ G.prt).mono ?_;rintro e v3 ⟨rfl,hs⟩;have r8:=hs.kept.row r8 iz iz
 have r10:=hs.kept.row r10 fE fE
 have G:=G.st hs ak
 clear hs;have cc:=za0 (j:=2) r10 rfl
 have fc:=za3 (j:=2) r10
 go_upto_region 5 with fail
 have G:=G.setNew iy ak mV 2 (.int .u16 (cl:Int))
 have r8:=(Below.heap_setCell v3 ⟨c,2,none⟩ (.int .u16 (cl:Int)) b (by dsimp only;omega)).trans r8
 have r10:(v3.setCell ⟨c,2,none⟩ (.int .u16 (cl:Int))).heap[c]? =some (.cells #[S n,.int .u16 (ty:Int),.int .u16 (cl:Int),.int .u32 0,.string ⟨#[]⟩] 99):=za2 r10 2 _
 clear cc fc;obtain⟨V3,hV⟩:∃V,V=v3.setCell ⟨c,2,none⟩ (.int .u16 (cl:Int)):=⟨_,rfl⟩
 rw[←hV]at G r8 r10 ⊢;clear hV;go_wp2_with fail;refine(C4.out _ G.prt).mono ?_;rintro e v4 ⟨rfl,hs⟩;have r8:=hs.kept.row r8 iz iz
 have r10:=hs.kept.row r10 fE fE
 have G:=G.st hs ak
 clear hs;have cc:=za0 (j:=3) r10 rfl
 have fc:=za3 (j:=3) r10
 go_upto_region 6 with fail
 have G:=G.setNew iy ak mV 3 (.int .u32 (tt:Int))
 have r8:=(Below.heap_setCell v4 ⟨c,3,none⟩ (.int .u32 (tt:Int)) b (by dsimp only;omega)).trans r8
 have r10:(v4.setCell ⟨c,3,none⟩ (.int .u32 (tt:Int))).heap[c]? =some (.cells #[S n,.int .u16 (ty:Int),.int .u16 (cl:Int),.int .u32 (tt:Int),.string ⟨#[]⟩] 99):=za2 r10 3 _
 clear cc fc;obtain⟨V4,hV⟩:∃V,V=v4.setCell ⟨c,3,none⟩ (.int .u32 (tt:Int)):=⟨_,rfl⟩
 rw[←hV]at G r8 r10 ⊢;clear hV;go_wp2_with fail;refine(C5.out _ G.prt).mono ?_;rintro e V5 ⟨rfl,hs⟩;have r8:=hs.kept.row r8 iz iz
 have r10:=hs.kept.row r10 fE fE
 have G:=G.st hs ak
 clear hs C1 C2 C3 C4 C5;obtain⟨c0,c1,f0,f1⟩:=G.boxes
 dsimp only at c0 c1;have uk:V5.heap.size≥w.heap.size:=G.kept.1
 by_cases aJ:er=0
 rotate_left
 ·have bp:∃y,zbd d (decide (sec=3)) ed p=.error y:=by
   rcases HC with⟨h0,_⟩|⟨_,h0⟩
   ·exact absurd h0 aJ
   ·exact h0
  have f2:((er:Int)==0)=false:=zbm aJ
  have f3:((er:Int)!=0)=true:=by rw[bne,f2];rfl
  have ig:=Z7 aJ
  have HB:=Z7 bp
  clear aJ bp HC hO;go_upto_region 10 with fail
  refine wp_region_lit ?_
  repeat(first
   |(refine zaz (by rfl) 99 (.tmp 10) rfl c rfl _ (#[S n,.int .u16 (ty:Int),.int .u16 (cl:Int),.int .u32 (tt:Int),.string ⟨#[]⟩]) _ _ r10 Tryz.underlying99 rfl (by kernel_rfl) ?_)
   |(refine Go.wpList_store_rowTo rfl 99 (.tmp 8) (.tmp 60) rfl rfl b (#[S n,.int .u16 (ty:Int),.int .u16 (cl:Int),.int .u32 (tt:Int),.string ⟨#[]⟩]) rfl rfl 99 _ r8 (by kernel_rfl) rfl (by kernel_rfl) ?_)
   |go_step)
  (try simp only[Exit.inBlock,Exit.then])
  refine bodyPost_ret (zas rfl _ _ b _ _ _ _ rfl (setRow_heap V5 b _ _ _ _ r8) Tryz.underlying99 rfl (by kernel_rfl)) rfl ?_
  have G:=G.rowNew iy dp ge (#[S n,.int .u16 (ty:Int),.int .u16 (cl:Int),.int .u32 (tt:Int),.string ⟨#[]⟩])
  exact⟨⟨n,ty,cl,tt,[]⟩,false,(p5,er),_,_,_,rfl,G,.inl ⟨ig.out,HB.out⟩⟩
 subst aJ;have xz:zbd d (decide (sec=3)) ed p=zi0 d (decide (sec=3)) ed n ty cl tt sz p5:=by
  rcases HC with⟨_,h0⟩|⟨h0,_⟩
  ·exact h0
  ·exact absurd rfl h0
 have re:p5≤d.length:=hO rfl
 have HR:=Z7 xz
 clear HC hO xz;have mr:IntKind.i64.wrap ((d.length:Int) - (p5:Int))=(d.length:Int) - (p5:Int):=IntWalk.i64_in _ (by omega)
 by_cases cZ:d.length<p5+sz
 ·have HT:=Z7 (HR.out.trans (zz5 cZ))
  have ab:(d.length:Int) - (p5:Int)<(sz:Int):=by omega
  clear cZ HR;go_upto_region 9 with fail
  have G:=G.set1 (m:=4) (k:=4) rfl ak
  have r8:=(Below.heap_setCell V5 ⟨pp,1,none⟩ (.int .i64 4) b (by dsimp only;omega)).trans r8
  have r10:=(Below.heap_setCell V5 ⟨pp,1,none⟩ (.int .i64 4) c (by dsimp only;omega)).trans r10
  clear c0 c1 f0 f1;obtain⟨V6,hV⟩:∃V,V=V5.setCell ⟨pp,1,none⟩ (.int .i64 4):=⟨_,rfl⟩
  rw[←hV]at G r8 r10 ⊢;clear hV;obtain⟨c0,c1,f0,f1⟩:=G.boxes
  dsimp only at c0 c1;go_upto_region 10 with fail
  refine wp_region_lit ?_
  repeat(first
   |(refine zaz (by rfl) 99 (.tmp 10) rfl c rfl _ (#[S n,.int .u16 (ty:Int),.int .u16 (cl:Int),.int .u32 (tt:Int),.string ⟨#[]⟩]) _ _ r10 Tryz.underlying99 rfl (by kernel_rfl) ?_)
   |(refine Go.wpList_store_rowTo rfl 99 (.tmp 8) (.tmp 60) rfl rfl b (#[S n,.int .u16 (ty:Int),.int .u16 (cl:Int),.int .u32 (tt:Int),.string ⟨#[]⟩]) rfl rfl 99 _ r8 (by kernel_rfl) rfl (by kernel_rfl) ?_)
   |go_step)
  (try simp only[Exit.inBlock,Exit.then])
  refine bodyPost_ret (zas rfl _ _ b _ _ _ _ rfl (setRow_heap V6 b _ _ _ _ r8) Tryz.underlying99 rfl (by kernel_rfl)) rfl ?_
  have G:=G.rowNew iy dp ge (#[S n,.int .u16 (ty:Int),.int .u16 (cl:Int),.int .u32 (tt:Int),.string ⟨#[]⟩])
  exact⟨⟨n,ty,cl,tt,[]⟩,false,(p5,4),_,_,_,rfl,G,.inl ⟨zcp,4,HT.out⟩⟩
 have ab:¬(d.length:Int) - (p5:Int)<(sz:Int):=by omega
 have bA:IntKind.i64.wrap ((p5:Int)+(sz:Int))=(p5:Int)+(sz:Int):=IntWalk.i64_in _ (by omega)
 go_upto_region 13 with fail
 have G:=G.set0 (m:=(p5:Int)+(sz:Int)) (k:=p5+sz) (by omega) ak
 have r8:=(Below.heap_setCell V5 ⟨pp,0,none⟩ (.int .i64 ((p5:Int)+(sz:Int))) b (by dsimp only;omega)).trans r8
 have r10:=(Below.heap_setCell V5 ⟨pp,0,none⟩ (.int .i64 ((p5:Int)+(sz:Int))) c (by dsimp only;omega)).trans r10
 clear c0 c1 f0 f1;obtain⟨V6,hV⟩:∃V,V=V5.setCell ⟨pp,0,none⟩ (.int .i64 ((p5:Int)+(sz:Int))):=⟨_,rfl⟩
 rw[←hV]at G r8 r10 ⊢;clear hV;obtain⟨c0,c1,f0,f1⟩:=G.boxes
 dsimp only at c0 c1;have k1:=za0 (j:=1) r10 rfl
 by_cases dt:ty=41
 rotate_left
 ·have f41:((ty:Int)==41)=false:=by rw[beq_eq_false_iff_ne];omega
  have HT:=Z7 (HR.out.trans (zE2 cZ dt))
  have H5:=Z7 (fun V=>zBa d p5 sz (ty:Int) V gn (by omega))
  generalize splitOf (d.take (p5+sz)) p5 (ty:Int)=SP at*;obtain⟨sl,se⟩:=SP
  dsimp only at HT;have sG:p5+sz≤d.length:=by omega
  clear dt HR;go_wp2_with fail;refine(H5.out _).mono ?_;rintro e V7 ⟨(⟨hz,rfl⟩|⟨hz,k,hk,rfl⟩),aS⟩
  ·have r8:=Z8 aS r8
   have r10:=Z8 aS r10
   have G:=G.ext aS ge
   clear c0 c1 f0 f1 k1;obtain⟨c0,c1,f0,f1⟩:=G.boxes
   dsimp only at c0 c1 hz;have cc:=za0 (j:=4) r10 rfl
   have fc:=za3 (j:=4) r10
   have lQ:=Z7 (HT.out.trans (if_pos hz))
   clear hz HT;go_upto_region 21 with fail
   have G:=(G.setNew iy ak mV 4 (S (textOf sl))).set1 (m:=0) (k:=0) rfl ak
   have r8:=(Below.heap_setCell _ ⟨pp,1,none⟩ (.int .i64 0) b (by dsimp only;omega)).trans ((Below.heap_setCell V7 ⟨c,4,none⟩ (S (textOf sl)) b (by dsimp only;omega)).trans r8)
   have r10:((V7.setCell ⟨c,4,none⟩ (S (textOf sl))).setCell ⟨pp,1,none⟩ (.int .i64 0)).heap[c]? =some (.cells #[S n,.int .u16 (ty:Int),.int .u16 (cl:Int),.int .u32 (tt:Int),S (textOf sl)] 99):=(Below.heap_setCell _ ⟨pp,1,none⟩ (.int .i64 0) c (by dsimp only;omega)).trans (za2 r10 4 _)
   clear c0 c1 f0 f1 cc fc;obtain⟨V8,hV⟩:∃V,V=(V7.setCell ⟨c,4,none⟩ (S (textOf sl))).setCell ⟨pp,1,none⟩ (.int .i64 0):=⟨_,rfl⟩
   rw[←hV]at G r8 r10 ⊢;clear hV;go_upto_region 21 with fail
   refine wp_region_lit ?_
   repeat(first
    |(refine zaz (by rfl) 99 (.tmp 10) rfl c rfl _ (#[S n,.int .u16 (ty:Int),.int .u16 (cl:Int),.int .u32 (tt:Int),S (textOf sl)]) _ _ r10 Tryz.underlying99 rfl (by kernel_rfl) ?_)
    |(refine Go.wpList_store_rowTo rfl 99 (.tmp 8) (.tmp 128) rfl rfl b (#[S n,.int .u16 (ty:Int),.int .u16 (cl:Int),.int .u32 (tt:Int),S (textOf sl)]) rfl rfl 99 _ r8 (by kernel_rfl) rfl (by kernel_rfl) ?_)
    |go_step)
   (try simp only[Exit.inBlock,Exit.then])
   refine bodyPost_ret (zas rfl _ _ b _ _ _ _ rfl (setRow_heap V8 b _ _ _ _ r8) Tryz.underlying99 rfl (by kernel_rfl)) rfl ?_
   have G:=G.rowNew iy dp ge (#[S n,.int .u16 (ty:Int),.int .u16 (cl:Int),.int .u32 (tt:Int),S (textOf sl)])
   exact⟨⟨n,ty,cl,tt,textOf sl⟩,true,(p5+sz,0),_,_,_,rfl,G,.inr ⟨rfl,sG,.inl ⟨rfl,lQ.out,rfl,rfl,rfl⟩⟩⟩
  ·have r8:=Z8 aS r8
   have r10:=Z8 aS r10
   have G:=G.ext aS ge
   clear c0 c1 f0 f1 k1;obtain⟨c0,c1,f0,f1⟩:=G.boxes
   dsimp only at c0 c1 hz;have cc:=za0 (j:=4) r10 rfl
   have fc:=za3 (j:=4) r10
   have lQ:=Z7 (HT.out.trans (if_neg hz))
   have Hk:=Z7 hk
   clear hz HT hk;go_upto_region 21 with fail
   have G:=(G.setNew iy ak mV 4 (S [])).set1 (m:=(k:Int)) (k:=k) rfl ak
   have r8:=(Below.heap_setCell _ ⟨pp,1,none⟩ (.int .i64 (k:Int)) b (by dsimp only;omega)).trans ((Below.heap_setCell V7 ⟨c,4,none⟩ (S []) b (by dsimp only;omega)).trans r8)
   have r10:((V7.setCell ⟨c,4,none⟩ (S [])).setCell ⟨pp,1,none⟩ (.int .i64 (k:Int))).heap[c]? =some (.cells #[S n,.int .u16 (ty:Int),.int .u16 (cl:Int),.int .u32 (tt:Int),S []] 99):=(Below.heap_setCell _ ⟨pp,1,none⟩ (.int .i64 (k:Int)) c (by dsimp only;omega)).trans (za2 r10 4 _)
   clear c0 c1 f0 f1 cc fc;obtain⟨V8,hV⟩:∃V,V=(V7.setCell ⟨c,4,none⟩ (S [])).setCell ⟨pp,1,none⟩ (.int .i64 (k:Int)):=⟨_,rfl⟩
   rw[←hV]at G r8 r10 ⊢;clear hV;go_upto_region 21 with fail
   refine wp_region_lit ?_
   repeat(first
    |(refine zaz (by rfl) 99 (.tmp 10) rfl c rfl _ (#[S n,.int .u16 (ty:Int),.int .u16 (cl:Int),.int .u32 (tt:Int),S []]) _ _ r10 Tryz.underlying99 rfl (by kernel_rfl) ?_)
    |(refine Go.wpList_store_rowTo rfl 99 (.tmp 8) (.tmp 128) rfl rfl b (#[S n,.int .u16 (ty:Int),.int .u16 (cl:Int),.int .u32 (tt:Int),S []]) rfl rfl 99 _ r8 (by kernel_rfl) rfl (by kernel_rfl) ?_)
    |go_step)
   (try simp only[Exit.inBlock,Exit.then])
   refine bodyPost_ret (zas rfl _ _ b _ _ _ _ rfl (setRow_heap V8 b _ _ _ _ r8) Tryz.underlying99 rfl (by kernel_rfl)) rfl ?_
   have G:=G.rowNew iy dp ge (#[S n,.int .u16 (ty:Int),.int .u16 (cl:Int),.int .u32 (tt:Int),S []])
   exact⟨⟨n,ty,cl,tt,[]⟩,true,(p5+sz,k),_,_,_,rfl,G,.inl ⟨Hk.out,_,lQ.out⟩⟩
 subst dt;have sG:p5+sz≤d.length:=by omega
 have k0:=za0 (j:=0) r10 rfl
 have k2:=za0 (j:=2) r10 rfl
 have k3:=za0 (j:=3) r10 rfl
 have m15:=za0 (j:=15) G.box rfl
 have n15:=za3 (j:=15) G.box
 by_cases oR:sec=3
 rotate_left
 ·have fs:((sec:Int)!=3)=true:=by rw[bne_iff_ne];omega
  have HT:=Z7 (HR.out.trans (zoi cZ (.inl (decide_eq_false oR))))
  go_upto_region 16 with fail
  have G:=G.set1 (m:=3) (k:=3) rfl ak
  have r8:=(Below.heap_setCell V6 ⟨pp,1,none⟩ (.int .i64 3) b (by dsimp only;omega)).trans r8
  have r10:=(Below.heap_setCell V6 ⟨pp,1,none⟩ (.int .i64 3) c (by dsimp only;omega)).trans r10
  clear c0 c1 f0 f1 k0 k1 k2 k3 m15 n15;obtain⟨V7,hV⟩:∃V,V=V6.setCell ⟨pp,1,none⟩ (.int .i64 3):=⟨_,rfl⟩
  rw[←hV]at G r8 r10 ⊢;clear hV;go_upto_region 16 with fail
  refine wp_region_lit ?_
  repeat(first
   |(refine zaz (by rfl) 99 (.tmp 10) rfl c rfl _ (#[S n,.int .u16 (41:Int),.int .u16 (cl:Int),.int .u32 (tt:Int),.string ⟨#[]⟩]) _ _ r10 Tryz.underlying99 rfl (by kernel_rfl) ?_)
   |(refine Go.wpList_store_rowTo rfl 99 (.tmp 8) (.tmp 90) rfl rfl b (#[S n,.int .u16 (41:Int),.int .u16 (cl:Int),.int .u32 (tt:Int),.string ⟨#[]⟩]) rfl rfl 99 _ r8 (by kernel_rfl) rfl (by kernel_rfl) ?_)
   |go_step)
  (try simp only[Exit.inBlock,Exit.then])
  refine bodyPost_ret (zas rfl _ _ b _ _ _ _ rfl (setRow_heap V7 b _ _ _ _ r8) Tryz.underlying99 rfl (by kernel_rfl)) rfl ?_
  have G:=G.rowNew iy dp ge (#[S n,.int .u16 (41:Int),.int .u16 (cl:Int),.int .u32 (tt:Int),.string ⟨#[]⟩])
  exact⟨⟨n,41,cl,tt,[]⟩,false,(p5+sz,3),_,_,_,rfl,G,.inl ⟨(by show(3:Nat)≠0;decide),3,HT.out⟩⟩
 subst oR;rcases ed with _|y0
 rotate_left
 ·dsimp only[Option.isSome]at m15;have HT:=Z7 (HR.out.trans (zoi cZ (.inr (.inl rfl))))
  go_upto_region 16 with fail
  have G:=G.set1 (m:=3) (k:=3) rfl ak
  have r8:=(Below.heap_setCell V6 ⟨pp,1,none⟩ (.int .i64 3) b (by dsimp only;omega)).trans r8
  have r10:=(Below.heap_setCell V6 ⟨pp,1,none⟩ (.int .i64 3) c (by dsimp only;omega)).trans r10
  clear c0 c1 f0 f1 k0 k1 k2 k3 m15 n15;obtain⟨V7,hV⟩:∃V,V=V6.setCell ⟨pp,1,none⟩ (.int .i64 3):=⟨_,rfl⟩
  rw[←hV]at G r8 r10 ⊢;clear hV;go_upto_region 16 with fail
  refine wp_region_lit ?_
  repeat(first
   |(refine zaz (by rfl) 99 (.tmp 10) rfl c rfl _ (#[S n,.int .u16 (41:Int),.int .u16 (cl:Int),.int .u32 (tt:Int),.string ⟨#[]⟩]) _ _ r10 Tryz.underlying99 rfl (by kernel_rfl) ?_)
   |(refine Go.wpList_store_rowTo rfl 99 (.tmp 8) (.tmp 90) rfl rfl b (#[S n,.int .u16 (41:Int),.int .u16 (cl:Int),.int .u32 (tt:Int),.string ⟨#[]⟩]) rfl rfl 99 _ r8 (by kernel_rfl) rfl (by kernel_rfl) ?_)
   |go_step)
  (try simp only[Exit.inBlock,Exit.then])
  refine bodyPost_ret (zas rfl _ _ b _ _ _ _ rfl (setRow_heap V7 b _ _ _ _ r8) Tryz.underlying99 rfl (by kernel_rfl)) rfl ?_
  have G:=G.rowNew iy dp ge (#[S n,.int .u16 (41:Int),.int .u16 (cl:Int),.int .u32 (tt:Int),.string ⟨#[]⟩])
  exact⟨⟨n,41,cl,tt,[]⟩,false,(p5+sz,3),_,_,_,rfl,G,.inl ⟨(by show(3:Nat)≠0;decide),3,HT.out⟩⟩
 by_cases fh:n=[0]
 rotate_left
 ·have fn:=ziu fh
  have HT:=Z7 (HR.out.trans (zoi cZ (.inr (.inr fh))))
  go_upto_region 16 with fail
  have G:=G.set1 (m:=3) (k:=3) rfl ak
  have r8:=(Below.heap_setCell V6 ⟨pp,1,none⟩ (.int .i64 3) b (by dsimp only;omega)).trans r8
  have r10:=(Below.heap_setCell V6 ⟨pp,1,none⟩ (.int .i64 3) c (by dsimp only;omega)).trans r10
  clear c0 c1 f0 f1 k0 k1 k2 k3 m15 n15;obtain⟨V7,hV⟩:∃V,V=V6.setCell ⟨pp,1,none⟩ (.int .i64 3):=⟨_,rfl⟩
  rw[←hV]at G r8 r10 ⊢;clear hV;go_upto_region 16 with fail
  refine wp_region_lit ?_
  repeat(first
   |(refine zaz (by rfl) 99 (.tmp 10) rfl c rfl _ (#[S n,.int .u16 (41:Int),.int .u16 (cl:Int),.int .u32 (tt:Int),.string ⟨#[]⟩]) _ _ r10 Tryz.underlying99 rfl (by kernel_rfl) ?_)
   |(refine Go.wpList_store_rowTo rfl 99 (.tmp 8) (.tmp 90) rfl rfl b (#[S n,.int .u16 (41:Int),.int .u16 (cl:Int),.int .u32 (tt:Int),.string ⟨#[]⟩]) rfl rfl 99 _ r8 (by kernel_rfl) rfl (by kernel_rfl) ?_)
   |go_step)
  (try simp only[Exit.inBlock,Exit.then])
  refine bodyPost_ret (zas rfl _ _ b _ _ _ _ rfl (setRow_heap V7 b _ _ _ _ r8) Tryz.underlying99 rfl (by kernel_rfl)) rfl ?_
  have G:=G.rowNew iy dp ge (#[S n,.int .u16 (41:Int),.int .u16 (cl:Int),.int .u32 (tt:Int),.string ⟨#[]⟩])
  exact⟨⟨n,41,cl,tt,[]⟩,false,(p5+sz,3),_,_,_,rfl,G,.inl ⟨(by show(3:Nat)≠0;decide),3,HT.out⟩⟩
 subst fh;have HT:=Z7 (HR.out.trans (zFv cZ (by simp)))
 clear HR;have IH:((d.drop p5).take sz).length≤1048576:=by rw[List.length_take,List.length_drop];omega
 have H6:=Z7 (fun V=>zBc cl tt ((d.drop p5).take sz) V IH (by omega) (by omega))
 have q1:((p5:Int)+(sz:Int)).toNat=p5+sz:=by omega
 have q2:(0:Int)≤(p5:Int):=by omega
 have q3:(p5:Int)≤(p5:Int)+(sz:Int):=by omega
 have q4:(p5:Int)+(sz:Int)≤(d.length:Int):=by omega
 dsimp only[Option.isSome,Option.getD]at m15;go_upto_region 18 with fail
 have G:GoP lo g pp (zbw h q a u x true za8 o) (p5+sz,0) w (V6.setCell ⟨g,15,none⟩ (.bool true)):=G.setg 15 (.bool true) jk
 have r8:=(Below.heap_setCell V6 ⟨g,15,none⟩ (.bool true) b (by dsimp only;omega)).trans r8
 have r10:=(Below.heap_setCell V6 ⟨g,15,none⟩ (.bool true) c (by dsimp only;omega)).trans r10
 clear c0 c1 f0 f1 k0 k1 k2 k3 m15 n15;obtain⟨V7,hV⟩:∃V,V=V6.setCell ⟨g,15,none⟩ (.bool true):=⟨_,rfl⟩
 rw[←hV]at G r8 r10 ⊢;clear hV;have k2:=za0 (j:=2) r10 rfl
 have k3:=za0 (j:=3) r10 rfl
 refine wp_region_noPanic ?_;refine za6 (S:=fun V=>V.cell? ⟨c,2,none⟩=some (.int .u16 (cl:Int))∧V.cell? ⟨c,3,none⟩=some (.int .u32 (tt:Int))) (.take 0 (.take 1 (.take 2 (.take 3 (.take 4 (.take 5 (.take 6 (.take 7 (.take 8 (.take 9 (.take 10 (.take 11 (.run 12 (.take 13 (.take 14 (.take 15 (.take 16 (.take 17 (.run 18 (.take 19 (.take 20 (.run 21 (.done))))))))))))))))))))))) (by kernel_rfl) (by kernel_rfl) (fun _ _ _ _ _ h=>h) ⟨k2,k3⟩ ?_
 repeat((with_reducible refine za7 ?_);first
  |(refine za4 (v:=?_) (by rfl) (by rfl) ?_ ?_;rotate_left;(focus(intro V hV;obtain⟨cX,gp⟩:=hV;(go_simp<;>with_reducible rfl)));(try simp only[ap])))
 refine za5 (by rfl) (fun K hK=>?_)
 go_simp;refine(H6.out _).mono ?_;rintro e V8 ⟨(⟨k,hk,rfl⟩|⟨y,ov,hy,rfl,bL⟩),hE8'⟩
 ·have sk:=G.lt
  have dj:Ext V7 V8:=Ext.trans ((Z5 V7).drew) hE8'
  have Cm:=dj.size
  have ft:=(Z9 r8)
  have Cn:=(Z9 r10)
  have r8:=(dj.block _ ft).trans r8
  have r10:=(dj.block _ Cn).trans r10
  have G:=G.ext dj ge
  have gz:=G.lt
  refine hK.out _ _ ⟨za0 (j:=2) r10 rfl,za0 (j:=3) r10 rfl⟩ ?_
  clear hK K k2 k3
  (try simp only[ap])
  repeat((with_reducible refine za7 ?_);first
   |(refine za4 (v:=?_) (by rfl) (by rfl) ?_ ?_;rotate_left;(focus(intro V hV;obtain⟨cX,gp⟩:=hV;(go_simp<;>with_reducible rfl)));(try simp only[ap])))
  refine za5 (by rfl) (fun K hK=>?_)
  rw[if_pos (by rfl)]
  refine wp_store_mid 43 (.tmp 111) (.tmp 108) rfl g 16 #[.int .u16 za8.size,.int .u8 za8.ext,.int .u8 za8.ver,.int .u16 za8.flags,(.slice none 0 0)] rfl rfl (zrv G.box (Z4 21)) (by kernel_rfl) (by kernel_rfl) ?_
  have G:=G.setEd jk za8 (.slice none 0 0)
  have r8:=(zgo V8 g b jy (.int .u16 za8.size) (.int .u8 za8.ext) (.int .u8 za8.ver) (.int .u16 za8.flags) (.slice none 0 0)).trans r8
  have r10:=(zgo V8 g c qh (.int .u16 za8.size) (.int .u8 za8.ext) (.int .u8 za8.ver) (.int .u16 za8.flags) (.slice none 0 0)).trans r10
  have fJ:=fun j (hj:j≠g)=>zgo V8 g j hj (.int .u16 za8.size) (.int .u8 za8.ext) (.int .u8 za8.ver) (.int .u16 za8.flags) (.slice none 0 0)
  refine hK.out _ _ ⟨za0 (j:=2) r10 rfl,za0 (j:=3) r10 rfl⟩ ?_
  clear hK K
  (try simp only[ap])
  obtain⟨V9,hV⟩:∃V,V=V8.setCells g 16 [.int .u16 za8.size,.int .u8 za8.ext,.int .u8 za8.ver,.int .u16 za8.flags,(.slice none 0 0)]:=⟨_,rfl⟩
  rw[←hV]at G r8 r10 fJ ⊢;clear hV;obtain⟨c0,c1,f0,f1⟩:=G.boxes
  dsimp only at c0 c1
  repeat((with_reducible refine za7 ?_);first
   |(refine za4 (v:=?_) (by rfl) (by rfl) ?_ ?_;rotate_left;(focus(intro V hV;obtain⟨cX,gp⟩:=hV;(go_simp<;>with_reducible rfl)));(try simp only[ap])))
  refine za5 (by rfl) (fun K hK=>?_)
  go_simp;have G:=G.set1 (m:=(k:Int)) (k:=k) rfl ak
  have r8:=(Below.heap_setCell V9 ⟨pp,1,none⟩ (.int .i64 (k:Int)) b (by dsimp only;omega)).trans r8
  have r10:=(Below.heap_setCell V9 ⟨pp,1,none⟩ (.int .i64 (k:Int)) c (by dsimp only;omega)).trans r10
  refine hK.out _ _ ⟨za0 (j:=2) r10 rfl,za0 (j:=3) r10 rfl⟩ ?_
  clear hK K c0 c1 f0 f1;have jX:=fun j (hj:j≠g) (qI:j≠pp)=>(Below.heap_setCell V9 ⟨pp,1,none⟩ (.int .i64 (k:Int)) j qI).trans (fJ j hj)
  clear fJ;obtain⟨V10,hV⟩:∃V,V=V9.setCell ⟨pp,1,none⟩ (.int .i64 (k:Int)):=⟨_,rfl⟩
  rw[←hV]at G r8 r10 jX ⊢;clear hV
  (try simp only[ap])
  refine zag ?_;refine NoPanic.normal ?_;go_upto_region 19 with fail
  refine wp_region_lit ?_
  repeat(first
   |(refine zaz (by rfl) 99 (.tmp 10) rfl c rfl _ (#[S [0],.int .u16 (41:Int),.int .u16 (cl:Int),.int .u32 (tt:Int),.string ⟨#[]⟩]) _ _ r10 Tryz.underlying99 rfl (by kernel_rfl) ?_)
   |(refine Go.wpList_store_rowTo rfl 99 (.tmp 8) (.tmp 114) rfl rfl b (#[S [0],.int .u16 (41:Int),.int .u16 (cl:Int),.int .u32 (tt:Int),.string ⟨#[]⟩]) rfl rfl 99 _ r8 (by kernel_rfl) rfl (by kernel_rfl) ?_)
   |go_step)
  (try simp only[Exit.inBlock,Exit.then])
  refine bodyPost_ret (zas rfl _ _ b _ _ _ _ rfl (setRow_heap V10 b _ _ _ _ r8) Tryz.underlying99 rfl (by kernel_rfl)) rfl ?_
  have G:=G.rowNew iy dp ge (#[S [0],.int .u16 (41:Int),.int .u16 (cl:Int),.int .u32 (tt:Int),.string ⟨#[]⟩])
  exact⟨⟨[0],41,cl,tt,[]⟩,false,(p5+sz,k),_,_,_,rfl,G,.inl ⟨by show k≠0;rw[zwb hk];decide,k,HT.out.trans (by rw[hk])⟩⟩
 ·have sk:=G.lt
  have II:=G.kept.1
  have wW:=bL
  obtain⟨oA,oc,rfl,_⟩:=wW
  have dj:Ext V7 V8:=Ext.trans ((Z5 V7).drew) hE8'
  have Cm:=dj.size
  have ft:=(Z9 r8)
  have Cn:=(Z9 r10)
  have r8:=(dj.block _ ft).trans r8
  have r10:=(dj.block _ Cn).trans r10
  have G:=G.ext dj ge
  have gz:=G.lt
  refine hK.out _ _ ⟨za0 (j:=2) r10 rfl,za0 (j:=3) r10 rfl⟩ ?_
  clear hK K k2 k3
  (try simp only[ap])
  repeat((with_reducible refine za7 ?_);first
   |(refine za4 (v:=?_) (by rfl) (by rfl) ?_ ?_;rotate_left;(focus(intro V hV;obtain⟨cX,gp⟩:=hV;(go_simp<;>with_reducible rfl)));(try simp only[ap])))
  refine za5 (by rfl) (fun K hK=>?_)
  rw[if_pos (by rfl)]
  refine wp_store_mid 43 (.tmp 111) (.tmp 108) rfl g 16 #[.int .u16 y.size,.int .u8 y.ext,.int .u8 y.ver,.int .u16 y.flags,(.slice oA y.opts.length oc)] rfl rfl (zrv G.box (Z4 21)) (by kernel_rfl) (by kernel_rfl) ?_
  have G:=G.setEd jk y (.slice oA y.opts.length oc)
  have r8:=(zgo V8 g b jy (.int .u16 y.size) (.int .u8 y.ext) (.int .u8 y.ver) (.int .u16 y.flags) (.slice oA y.opts.length oc)).trans r8
  have r10:=(zgo V8 g c qh (.int .u16 y.size) (.int .u8 y.ext) (.int .u8 y.ver) (.int .u16 y.flags) (.slice oA y.opts.length oc)).trans r10
  have fJ:=fun j (hj:j≠g)=>zgo V8 g j hj (.int .u16 y.size) (.int .u8 y.ext) (.int .u8 y.ver) (.int .u16 y.flags) (.slice oA y.opts.length oc)
  refine hK.out _ _ ⟨za0 (j:=2) r10 rfl,za0 (j:=3) r10 rfl⟩ ?_
  clear hK K
  (try simp only[ap])
  obtain⟨V9,hV⟩:∃V,V=V8.setCells g 16 [.int .u16 y.size,.int .u8 y.ext,.int .u8 y.ver,.int .u16 y.flags,(.slice oA y.opts.length oc)]:=⟨_,rfl⟩
  rw[←hV]at G r8 r10 fJ ⊢;clear hV;obtain⟨c0,c1,f0,f1⟩:=G.boxes
  dsimp only at c0 c1
  repeat((with_reducible refine za7 ?_);first
   |(refine za4 (v:=?_) (by rfl) (by rfl) ?_ ?_;rotate_left;(focus(intro V hV;obtain⟨cX,gp⟩:=hV;(go_simp<;>with_reducible rfl)));(try simp only[ap])))
  refine za5 (by rfl) (fun K hK=>?_)
  go_simp;have G:=G.set1 (m:=0) (k:=0) rfl ak
  have r8:=(Below.heap_setCell V9 ⟨pp,1,none⟩ (.int .i64 0) b (by dsimp only;omega)).trans r8
  have r10:=(Below.heap_setCell V9 ⟨pp,1,none⟩ (.int .i64 0) c (by dsimp only;omega)).trans r10
  refine hK.out _ _ ⟨za0 (j:=2) r10 rfl,za0 (j:=3) r10 rfl⟩ ?_
  clear hK K c0 c1 f0 f1;have jX:=fun j (hj:j≠g) (qI:j≠pp)=>(Below.heap_setCell V9 ⟨pp,1,none⟩ (.int .i64 0) j qI).trans (fJ j hj)
  clear fJ;obtain⟨V10,hV⟩:∃V,V=V9.setCell ⟨pp,1,none⟩ (.int .i64 0):=⟨_,rfl⟩
  rw[←hV]at G r8 r10 jX ⊢;clear hV
  (try simp only[ap])
  refine zag ?_;refine NoPanic.normal ?_;go_upto_region 19 with fail
  refine wp_region_lit ?_
  repeat(first
   |(refine zaz (by rfl) 99 (.tmp 10) rfl c rfl _ (#[S [0],.int .u16 (41:Int),.int .u16 (cl:Int),.int .u32 (tt:Int),.string ⟨#[]⟩]) _ _ r10 Tryz.underlying99 rfl (by kernel_rfl) ?_)
   |(refine Go.wpList_store_rowTo rfl 99 (.tmp 8) (.tmp 114) rfl rfl b (#[S [0],.int .u16 (41:Int),.int .u16 (cl:Int),.int .u32 (tt:Int),.string ⟨#[]⟩]) rfl rfl 99 _ r8 (by kernel_rfl) rfl (by kernel_rfl) ?_)
   |go_step)
  (try simp only[Exit.inBlock,Exit.then])
  refine bodyPost_ret (zas rfl _ _ b _ _ _ _ rfl (setRow_heap V10 b _ _ _ _ r8) Tryz.underlying99 rfl (by kernel_rfl)) rfl ?_
  have G:=G.rowNew iy dp ge (#[S [0],.int .u16 (41:Int),.int .u16 (cl:Int),.int .u32 (tt:Int),.string ⟨#[]⟩])
  have gr:=zak V10 b #[S [0],.int .u16 (41:Int),.int .u16 (cl:Int),.int .u32 (tt:Int),.string ⟨#[]⟩]
  have Co:=(bL.by_ (w':=V10.setRow b #[S [0],.int .u16 (41:Int),.int .u16 (cl:Int),.int .u32 (tt:Int),.string ⟨#[]⟩]) fun k hk=>by
   have iC:=bL.lt k hk
   have h1:=jX k (by have:=iC.1;simp at this;omega) (by have:=iC.1;simp at this;omega)
   exact(gr.block k (Array.getElem?_eq_some_iff.1 (h1.trans (Array.getElem?_eq_getElem iC.2))).1 (fun e=>by injection e with e;have:=iC.1;simp at this;omega)).trans h1).lower (lo':=w.heap.size) (by simp;omega)
  exact⟨⟨[0],41,cl,tt,[]⟩,false,(p5+sz,0),_,_,_,rfl,G,.inr ⟨rfl,sG,.inr ⟨rfl,y,HT.out.trans (by rw[hy]),rfl,rfl,Co⟩⟩⟩
end Go.Proofs.YtdnpmapelmjfpaaGreatDoor
