/- Contracts of functions and plain lemmas that the proofs of this seat share (joined texts). No condition. -/
import Derived.Test.YtdnpmapelmjfpaaGreatDoorQrx
import Derived.Test.YtdnpmapelmjfpaaGreatDoorQrz
import Derived.Test.YtdnpmapelmjfpaaGreatDoorQe
set_option maxHeartbeats 16000000
set_option linter.unusedVariables false
set_option linter.unusedSimpArgs false
namespace Go.Proofs.YtdnpmapelmjfpaaGreatDoor
theorem zcr:(4:Nat)≠0:=by decide
def zcc (k:Nat) (d:List UInt8) (s:Nat×Nat):Nat×(Nat×Nat):=
 if s.2≠0 then(0,s)else if d.length<s.1+k then(0,(s.1,4))else(be ((d.drop s.1).take k),(s.1+k,0))
def zci (d:List UInt8) (s:Nat×Nat):List UInt8×(Nat×Nat):=
 if s.2≠0 then([],s)else((readN d s.1).1,((readN d s.1).2.1,(readN d s.1).2.2))
def okS (d:List UInt8) (s:Nat×Nat):Prop:=s.2=0→s.1≤d.length
theorem zcn {k:Nat} {d:List UInt8} {s:Nat×Nat} (h:s.2≠0):zcc k d s=(0,s):=if_pos h
theorem zhw {k p v p':Nat} {d:List UInt8} (h:zaq k d p=.ok (v,p')):zcc k d (p,0)=(v,(p',0)):=by
 obtain⟨h1,h2,h3⟩:=zd5 h
 unfold zcc;rw[if_neg (by simp),if_neg (by dsimp only;omega),h3,h1]
theorem zhv {k p x:Nat} {d:List UInt8} (h:zaq k d p=.error x):zcc k d (p,0)=(0,(p,4)):=by
 obtain⟨_,h2⟩:=zcv h
 unfold zcc;rw[if_neg (by simp),if_pos (by dsimp only;omega)]
theorem zeh {k:Nat} {d:List UInt8} {s:Nat×Nat} (h:okS d s):okS d (zcc k d s).2:=by
 unfold zcc;split
 ·exact h
 ·split
  ·intro e;exact absurd e zcr
  ·intro _;dsimp only;omega
theorem zhu (k:Nat) (d:List UInt8) (s:Nat×Nat) (hk:k≤4):(zcc k d s).1<256^k:=by
 have hp:0<256^k:=Nat.pow_pos (by decide)
 unfold zcc;split
 ·exact hp
 ·split
  ·exact hp
  ·rename_i h1 h2;have h3:((d.drop s.1).take k).length≤k:=by rw[List.length_take];omega
   exact Nat.lt_of_lt_of_le (znu _) (Nat.pow_le_pow_right (by decide) h3)
theorem zyx {d:List UInt8} {s:Nat×Nat} (h:s.2≠0):zci d s=([],s):=if_pos h
theorem zgd (d:List UInt8) (p:Nat):zci d (p,0)=((readN d p).1,((readN d p).2.1,(readN d p).2.2)):=rfl
theorem zlc {d:List UInt8} {s:Nat×Nat} (h:okS d s):okS d (zci d s).2:=by
 obtain⟨p,e⟩:=s
 unfold zci;split
 ·exact h
 ·rename_i he;have he0:e=0:=by simpa using he
  intro h2;dsimp only at h2 ⊢;exact(ze8 d p).1
def quS (d:List UInt8) (s:Nat×Nat):QD×(Nat×Nat):=
 (⟨(zci d s).1,(zcc 2 d (zci d s).2).1,(zcc 2 d (zcc 2 d (zci d s).2).2).1⟩,(zcc 2 d (zcc 2 d (zci d s).2).2).2)
theorem zEu (d:List UInt8) (p:Nat):((quS d (p,0)).2.2=0∧quR d p=.ok ((quS d (p,0)).1,(quS d (p,0)).2.1))∨((quS d (p,0)).2.2≠0∧∃x,quR d p=.error x):=by
 unfold quS;rcases h1:zcb d p with x|⟨n,p1⟩
 ·obtain⟨hx,hr⟩:=zi8 h1
  have hs:(zci d (p,0)).2.2≠0:=by rw[zgd];dsimp only;rw[hr];exact hx
  rw[zcn (s:=(zci d (p,0)).2) hs]
  dsimp only;rw[zcn (s:=(zci d (p,0)).2) hs]
  exact .inr ⟨hs,x,zz9 h1⟩
 have hn:=zgq h1
 have hs:zci d (p,0)=(n,(p1,0)):=by rw[zgd,hn]
 rw[hs];dsimp only;rcases h2:zaq 2 d p1 with x|⟨ty,p2⟩
 ·rw[zhv h2];dsimp only;rw[zcn (s:=(p1,4)) zcr]
  exact .inr ⟨zcr,x,zza h1 h2⟩
 rw[zhw h2];dsimp only;rcases h3:zaq 2 d p2 with x|⟨cl,p3⟩
 ·rw[zhv h3];exact .inr ⟨zcr,x,zzb h1 h2 h3⟩
 rw[zhw h3];exact .inl ⟨rfl,zzc h1 h2 h3⟩
structure RcS where
 n:List UInt8
 ty:Nat
 cl:Nat
 tt:Nat
 sz:Nat
 st:Nat×Nat
def rcS (d:List UInt8) (s:Nat×Nat):RcS:=
 let a:=zci d s
 let b:=zcc 2 d a.2
 let c:=zcc 2 d b.2
 let t:=zcc 4 d c.2
 let z:=zcc 2 d t.2
 ⟨a.1,b.1,c.1,t.1,z.1,z.2⟩
def zhq (d:List UInt8) (more:Bool) (ed:Option EdD) (n:List UInt8) (ty cl tt sz p:Nat):Except Nat (Option RecD×Option EdD×Nat):=
 if d.length<p+sz then .error 4
 else if ty=41 then
  (if more=false∨ed.isSome=true∨n≠[0]then .error 3
   else match edR cl tt ((d.drop p).take sz)with
    | .error e=>.error e
    | .ok x=>.ok (none,some x,p+sz))
 else if(splitOf (d.take (p+sz)) p ty).2=0 then .ok (some ⟨n,ty,cl,tt,textOf (splitOf (d.take (p+sz)) p ty).1⟩,ed,p+sz)
 else .error (splitOf (d.take (p+sz)) p ty).2
theorem zEv (d:List UInt8) (more:Bool) (ed:Option EdD) (p:Nat):((rcS d (p,0)).st.2=0∧zbp d more ed p=zhq d more ed (rcS d (p,0)).n (rcS d (p,0)).ty (rcS d (p,0)).cl (rcS d (p,0)).tt (rcS d (p,0)).sz (rcS d (p,0)).st.1)∨((rcS d (p,0)).st.2≠0∧∃x,zbp d more ed p=.error x):=by
 unfold rcS;dsimp only;rcases h1:zcb d p with x|⟨n,p1⟩
 ·obtain⟨hx,hr⟩:=zi8 h1
  have hs:(zci d (p,0)).2.2≠0:=by rw[zgd];dsimp only;rw[hr];exact hx
  rw[zcn (s:=(zci d (p,0)).2) hs]
  dsimp only;rw[zcn (s:=(zci d (p,0)).2) hs]
  dsimp only;rw[zcn (s:=(zci d (p,0)).2) hs]
  dsimp only;rw[zcn (s:=(zci d (p,0)).2) hs]
  exact .inr ⟨hs,x,zm5 h1⟩
 have hn:=zgq h1
 have hs:zci d (p,0)=(n,(p1,0)):=by rw[zgd,hn]
 rw[hs];dsimp only;rcases h2:zaq 2 d p1 with x|⟨ty,p2⟩
 ·rw[zhv h2];dsimp only;rw[zcn (s:=(p1,4)) zcr];dsimp only
  rw[zcn (s:=(p1,4)) zcr];dsimp only
  rw[zcn (s:=(p1,4)) zcr]
  exact .inr ⟨zcr,x,zm6 h1 h2⟩
 rw[zhw h2];dsimp only;rcases h3:zaq 2 d p2 with x|⟨cl,p3⟩
 ·rw[zhv h3];dsimp only;rw[zcn (s:=(p2,4)) zcr];dsimp only
  rw[zcn (s:=(p2,4)) zcr]
  exact .inr ⟨zcr,x,zm7 h1 h2 h3⟩
 rw[zhw h3];dsimp only;rcases h4:zaq 4 d p3 with x|⟨tt,p4⟩
 ·rw[zhv h4];dsimp only;rw[zcn (s:=(p3,4)) zcr]
  exact .inr ⟨zcr,x,zm8 h1 h2 h3 h4⟩
 rw[zhw h4];dsimp only;rcases h5:zaq 2 d p4 with x|⟨sz,p5⟩
 ·rw[zhv h5];exact .inr ⟨zcr,x,zm9 h1 h2 h3 h4 h5⟩
 rw[zhw h5];dsimp only;exact .inl ⟨rfl,zm4 h1 h2 h3 h4 h5⟩
theorem zEw {d:List UInt8} {p:Nat} (hp:p≤d.length):okS d (rcS d (p,0)).st:=by
 unfold rcS;dsimp only;exact zeh (zeh (zeh (zeh (zlc (fun _=>hp)))))
theorem zx2 {msg:List UInt8} (hm:msg.length≤16384) {more:Bool} {ed ed':Option EdD} {pos p:Nat} {r:RecD} (h:zbp msg more ed pos=.ok (some r,ed',p)):r.name.length≤255∧r.data.length≤100000:=by
 rcases h1:zcb msg pos with e|⟨n,p1⟩
 ·rw[zm5 h1]at h;cases h
 rcases h2:zaq 2 msg p1 with e|⟨ty,p2⟩
 ·rw[zm6 h1 h2]at h;cases h
 rcases h3:zaq 2 msg p2 with e|⟨cl,p3⟩
 ·rw[zm7 h1 h2 h3]at h;cases h
 rcases h4:zaq 4 msg p3 with e|⟨tt,p4⟩
 ·rw[zm8 h1 h2 h3 h4]at h;cases h
 rcases h5:zaq 2 msg p4 with e|⟨sz,p5⟩
 ·rw[zm9 h1 h2 h3 h4 h5]at h;cases h
 rw[zm4 h1 h2 h3 h4 h5]at h;split at h
 ·cases h
 ·split at h
  ·split at h
   ·cases h
   ·rcases h6:edR cl tt ((msg.drop p5).take sz)with e|y
    ·rw[h6]at h;cases h
    ·rw[h6]at h;dsimp only at h;injection h with h;injection h with h _;cases h
  ·split at h
   ·injection h with h;injection h with h h'
    injection h with h
    rw[←h];have hn:=(ze8 msg pos).2
    rw[zgq h1]at hn;refine⟨hn,?_⟩;have hl:(msg.take (p5+sz)).length≤16384:=by rw[List.length_take];omega
    have hp5:p5≤(msg.take (p5+sz)).length:=by have:=(zd5 h5).2.1;have:=(zd5 h5).1;rw[List.length_take];omega
    have hb:=zgm (msg.take (p5+sz)) p5 ty hp5
    have:=zok _ _ hb.2
    have h3:(splitOf (msg.take (p5+sz)) p5 ty).1.length*((msg.take (p5+sz)).length+255)≤3*(16384+255):=Nat.mul_le_mul hb.1 (by omega)
    dsimp only;omega
   ·cases h
theorem zh1 {msg:List UInt8} (hm:msg.length≤16384) {more:Bool}:∀{k:Nat} {ed ed':Option EdD} {pos p:Nat} {l:List RecD},zat msg more k ed pos=.ok (l,ed',p)→∀r∈l,r.name.length≤255∧r.data.length≤100000
 |0,ed,ed',pos,p,l,h=>by
  unfold zat at h;injection h with h;injection h with h _
  subst h;intro r hr;cases hr
 |k+1,ed,ed',pos,p,l,h=>by
  unfold zat at h;rcases h1:zbp msg more ed pos with e|⟨r,e1,p1⟩
  ·rw[h1]at h;cases h
  ·rw[h1]at h;dsimp only at h;rcases h2:zat msg more k e1 p1 with e|⟨l2,e2,p2⟩
   ·rw[h2]at h;cases h
   ·rw[h2]at h;dsimp only at h;injection h with h;injection h with h _
    subst h;intro y hy;rcases List.mem_append.1 hy with h3|h3
    ·cases r with
     |none=>cases h3
     |some r0=>
      have:y=r0:=by simpa using h3
      subst this;exact zx2 hm h1
    ·exact zh1 hm h2 y h3
end Go.Proofs.YtdnpmapelmjfpaaGreatDoor
namespace Go.Proofs.YtdnpmapelmjfpaaGreatDoor
open Go.RowKit
set_option maxRecDepth 100000
theorem zzk (n:Nat) (w:World) (hn:n≤65535):
 Calls Tryz.prog 165 #[.int .u16 (n:Int)] w fun e w'=>e=.returned (hdV (za1 0 n))∧Ext w w':=by
 go_enter Tryz.func165,Tryz.ntmps165;go_wp2_with fail;have hr:=heap_alloc_new w (.cells #[.int .u16 0,.bool ((n:Int)/32768==1),.int .u8 ((n:Int)/2048%16),.bool ((n:Int)/1024%2==1),.bool ((n:Int)/512%2==1),.bool ((n:Int)/256%2==1),.bool ((n:Int)/128%2==1),.bool ((n:Int)/64%2==1),.bool ((n:Int)/32%2==1),.bool ((n:Int)/16%2==1),.int .u8 ((n:Int)%16)] 30)
 refine bodyPost_ret (results_cell_row rfl _ _ w.heap.size _ _ _ _ rfl hr Tryz.underlying30 rfl (by kernel_rfl)) rfl ?_
 refine⟨?_,(Ext.refl _).alloc _⟩;have hb:∀k:Nat,((n:Int)/(k:Int)%2==1)=decide (n/k%2=1):=by
  intro k;have:((n:Int)/(k:Int)%2)=((n/k%2:Nat):Int):=by push_cast;rfl
  rw[this];by_cases h:n/k%2=1
  ·simp[h]
  ·simp only[decide_eq_false h,beq_eq_false_iff_ne,ne_eq];omega
 have h0:((n:Int)/32768==1)=decide (n/32768=1):=by
  by_cases h:n/32768=1
  ·rw[decide_eq_true h,beq_iff_eq];omega
  ·simp only[decide_eq_false h,beq_eq_false_iff_ne,ne_eq];omega
 have h1:((n:Int)/1024%2==1)=decide (n/1024%2=1):=hb 1024
 have h2:((n:Int)/512%2==1)=decide (n/512%2=1):=hb 512
 have h3:((n:Int)/256%2==1)=decide (n/256%2=1):=hb 256
 have h4:((n:Int)/128%2==1)=decide (n/128%2=1):=hb 128
 have h5:((n:Int)/64%2==1)=decide (n/64%2=1):=hb 64
 have h6:((n:Int)/32%2==1)=decide (n/32%2=1):=hb 32
 have h7:((n:Int)/16%2==1)=decide (n/16%2=1):=hb 16
 clear hb;rw[h0,h1,h2,h3,h4,h5,h6,h7];rfl
theorem zBn (s:List UInt8) (k:Nat) (h:k+1<s.length):n16 s k=(s[k]'(by omega)).toNat*256+(s[k+1]).toNat:=by
 have e:(s.drop k).take 2=[s[k]'(by omega),s[k+1]]:=by
  rw[List.drop_eq_getElem_cons (by omega:k<s.length),List.drop_eq_getElem_cons h]
  rfl
 unfold n16;rw[e];simp[be]
theorem zes (s:List UInt8) (k:Nat) (w:World) (hl:s.length≤1048576) (hk:k+1<s.length):
 Calls Tryz.prog 166 #[S s,.int .i64 (k:Int)] w fun e w'=>e=.returned (.int .i64 (n16 s k:Int))∧Ext w w':=by
 have Hn:=Lib.hid (zBn s k hk)
 have hk0:k<s.length:=by omega
 obtain⟨b0,Hb0,hget0,hwb0,hbd0⟩:=zc6 s k hk0
 obtain⟨b1,Hb1,hget1,hwb1,hbd1⟩:=zc6 s (k+1) hk
 have et:((k:Int)+1).toNat=k+1:=by omega
 have hlt1:(k:Int)+1<(s.length:Int):=by omega
 go_enter Tryz.func166,Tryz.ntmps166;go_wp2_with fail;go_region
 (try simp only[Exit.inBlock,Exit.then])
 go_wp2_with fail;go_ret;refine⟨?_,(Ext.refl _).drew⟩;rw[Hn.out,Hb0.out,Hb1.out]
 push_cast
 rfl
theorem zsr (s:List UInt8) (w:World) (hs:s.length<12):
 Calls Tryz.prog 106 #[S s] w fun e w'=>e=.returned (.tuple #[hdV hdZ,.agg #[.int .i64 0,.int .i64 0,.int .i64 0,.int .i64 0],.int .i64 4])∧Ext w w':=by
 have hlt:(s.length:Int)<12:=by omega
 go_enter Tryz.func106,Tryz.ntmps106;go_wp2_with fail;have h1:=heap_alloc_new w (.cells #[.int .u16 0,.bool false,.int .u8 0,.bool false,.bool false,.bool false,.bool false,.bool false,.bool false,.bool false,.int .u8 0] 30)
 have r1:=heap_alloc2_new w (.cells #[.int .u16 0,.bool false,.int .u8 0,.bool false,.bool false,.bool false,.bool false,.bool false,.bool false,.bool false,.int .u8 0] 30) (.cells #[.int .i64 0,.int .i64 0,.int .i64 0,.int .i64 0] 129)
 have r0:=(heap_alloc_old (w.alloc (.cells #[.int .u16 0,.bool false,.int .u8 0,.bool false,.bool false,.bool false,.bool false,.bool false,.bool false,.bool false,.int .u8 0] 30)) (.cells #[.int .i64 0,.int .i64 0,.int .i64 0,.int .i64 0] 129) (Array.getElem?_eq_some_iff.1 h1).1).trans h1
 refine bodyPost_ret (zgk rfl _ _ w.heap.size (w.heap.size+1) _ _ _ _ _ _ _ _ rfl r0 Tryz.underlying30 rfl (by kernel_rfl) rfl r1 Tryz.underlying129 rfl (by kernel_rfl)) rfl ?_
 exact⟨rfl,((Ext.refl _).alloc _).alloc _⟩
abbrev hdC (h:HdD):Array Value:= #[.int .u16 h.id,.bool h.qr,.int .u8 h.op,.bool h.aa,.bool h.tc,.bool h.rd,.bool h.ra,.bool h.z,.bool h.ad,.bool h.cd,.int .u8 h.code]
abbrev zwe:Array Value:= #[.int .u16 0,.bool false,.int .u8 0,.bool false,.bool false,.bool false,.bool false,.bool false,.bool false,.bool false,.int .u8 0]
theorem zqs (s:List UInt8) (k:Nat):IntKind.u16.wrap (n16 s k:Int)=(n16 s k:Int):=by
 have h:=zdo s k
 exact Int.emod_eq_of_lt (by omega) (by show _<(65536:Int);omega)
theorem zzl (s:List UInt8) (w:World) (hs:12≤s.length) (hl:s.length≤1048576):
 Calls Tryz.prog 106 #[S s] w fun e w'=>e=.returned (.tuple #[hdV (za1 (n16 s 0) (n16 s 2)),.agg #[.int .i64 (n16 s 4:Int),.int .i64 (n16 s 6:Int),.int .i64 (n16 s 8:Int),.int .i64 (n16 s 10:Int)],.int .i64 0])∧Ext w w':=by
 have hlt:¬(s.length:Int)<12:=by omega
 have hw2:=zqs s 2
 have hw0:=zqs s 0
 go_enter Tryz.func106,Tryz.ntmps106;go_wp2_with fail;refine(zes s 2 _ hl (by omega)).mono ?_
 rintro e w1 ⟨rfl,hE1⟩;go_wp2_with fail;refine(zzk (n16 s 2) _ (by have:=zdo s 2;omega)).mono ?_
 rintro e w2 ⟨rfl,hE2⟩;unfold hdV za1;dsimp only;go_wp2_with fail;refine(zes s 0 _ hl (by omega)).mono ?_
 rintro e w3 ⟨rfl,hE3⟩;have r5:=(hE3.block _ (Array.getElem?_eq_some_iff.1 (heap_alloc_new w2 _)).1).trans (heap_alloc_new w2 _)
 have c5:w3.cell? ⟨w2.heap.size,0,none⟩=some (.int .u16 0):=by simp[World.cell?,r5]
 have f5:∀j,w3.frozen? ⟨w2.heap.size,j,none⟩=false:=by intro j;simp[World.frozen?,r5]
 go_upto_region 5 with fail
 have hz2:w.heap.size+2≤w2.heap.size:=by
  have h0:=hE1.size;have h1:=hE2.size
  simp at h0 h1;omega
 have q1:=heap_alloc_new w (.cells zwe 30)
 have q3:=heap_alloc2_new w (.cells zwe 30) (.cells #[.int .i64 0,.int .i64 0,.int .i64 0,.int .i64 0] 129)
 have q2:=(heap_alloc_old (w.alloc (.cells zwe 30)) (.cells #[.int .i64 0,.int .i64 0,.int .i64 0,.int .i64 0] 129) (Array.getElem?_eq_some_iff.1 q1).1).trans q1
 have hX:Ext w w2:=(((Ext.refl w).alloc _).alloc _).trans (hE1.trans hE2)
 have hEa:=(hE1.trans hE2)
 have u2:=(hEa.block _ (Array.getElem?_eq_some_iff.1 q2).1).trans q2
 have u3:=(hEa.block _ (Array.getElem?_eq_some_iff.1 q3).1).trans q3
 have hEb:Ext w2 w3:=((Ext.refl w2).alloc _).trans hE3
 have v2:=(hEb.block _ (Array.getElem?_eq_some_iff.1 u2).1).trans u2
 have v3:=(hEb.block _ (Array.getElem?_eq_some_iff.1 u3).1).trans u3
 obtain⟨V0,hV0⟩:∃V0,V0=w3.setCell ⟨w2.heap.size,0,none⟩ (.int .u16 (n16 s 0:Int)):=⟨_,rfl⟩
 have x5:V0.heap[w2.heap.size]? =some (.cells (hdC (za1 (n16 s 0) (n16 s 2))) 30):=by rw[hV0];exact za7 r5 0 _
 have x2:V0.heap[w.heap.size]? =some (.cells zwe 30):=by rw[hV0];exact(Below.heap_setCell _ ⟨w2.heap.size,0,none⟩ _ _ (by dsimp only;omega)).trans v2
 have x3:V0.heap[w.heap.size+1]? =some (.cells #[.int .i64 0,.int .i64 0,.int .i64 0,.int .i64 0] 129):=by rw[hV0];exact(Below.heap_setCell _ ⟨w2.heap.size,0,none⟩ _ _ (by dsimp only;omega)).trans v3
 have hE0:Ext w V0:=by rw[hV0];exact(hX.trans hEb).setCell (by dsimp only;omega) _
 rw[←hV0];clear hV0 v2 v3 u2 u3 q1 q2 q3 hE1 hE2 hE3 hEa hEb hX r5 c5 f5 w1;obtain⟨b5,hb5⟩:∃b5,b5=w2.heap.size:=⟨_,rfl⟩
 rw[←hb5]at x5 hz2 ⊢;clear hb5;refine wp_region_noPanic ?_;refine zac (S:=fun V=>V.heap[b5]? =some (.cells (hdC (za1 (n16 s 0) (n16 s 2))) 30)) (.take 0 (.take 1 (.take 3 (.take 5 (.take 7 (.run 2 (.run 4 (.run 6 (.run 8 (.take 9 (.run 10 (.run 11 (.take 12 .done))))))))))))) (by kernel_rfl) (by kernel_rfl) (fun _ _ _ _ _ h=>h) x5 ?_
 refine za2 (v:=?_) (by rfl) (by rfl) ?_ ?_
 rotate_left
 (focus(intro V hV;refine zcf 30 (.tmp 5) ?_ b5 0 ?_ _ (zeu hV) _ Tryz.underlying30 ?_ ?_;(focus rfl);(focus rfl);(focus rfl);(focus kernel_rfl)))
 (try simp only[ap])
 repeat((with_reducible refine za9 ?_);first
  |(refine za2 (v:=?_) (by rfl) (by rfl) ?_ ?_;rotate_left;(focus(intro V hV;(try dsimp only at hV);(go_simp<;>with_reducible rfl)));(try simp only[ap])))
 refine za3 (by rfl) (fun K hK=>?_)
 go_simp;refine(zes s 4 _ hl (by omega)).mono ?_;rintro e w4 ⟨rfl,hE4⟩
 have y5_4:=(hE4.block _ (Array.getElem?_eq_some_iff.1 x5).1).trans x5
 refine hK.out _ _ y5_4 ?_;clear hK K
 (try simp only[ap])
 refine za3 (by rfl) (fun K hK=>?_)
 go_simp;refine(zes s 6 _ hl (by omega)).mono ?_;rintro e w5 ⟨rfl,hE5⟩
 have y5_5:=(hE5.block _ (Array.getElem?_eq_some_iff.1 y5_4).1).trans y5_4
 refine hK.out _ _ y5_5 ?_;clear hK K
 (try simp only[ap])
 refine za3 (by rfl) (fun K hK=>?_)
 go_simp;refine(zes s 8 _ hl (by omega)).mono ?_;rintro e w6 ⟨rfl,hE6⟩
 have y5_6:=(hE6.block _ (Array.getElem?_eq_some_iff.1 y5_5).1).trans y5_5
 refine hK.out _ _ y5_6 ?_;clear hK K
 (try simp only[ap])
 refine za3 (by rfl) (fun K hK=>?_)
 go_simp;refine(zes s 10 _ hl (by omega)).mono ?_;rintro e w7 ⟨rfl,hE7⟩
 have y5_7:=(hE7.block _ (Array.getElem?_eq_some_iff.1 y5_6).1).trans y5_6
 refine hK.out _ _ y5_7 ?_;clear hK K
 (try simp only[ap])
 have hEn:Ext V0 w7:=((Ext.refl V0).drew.trans hE4).trans (hE5.trans (hE6.trans hE7))
 have z2:=(hEn.block _ (Array.getElem?_eq_some_iff.1 x2).1).trans x2
 have z3:=(hEn.block _ (Array.getElem?_eq_some_iff.1 x3).1).trans x3
 have hE7w:Ext w w7:=hE0.trans hEn
 clear hE4 hE5 hE6 hE7 y5_4 y5_5 y5_6 hEn
 repeat((with_reducible refine za9 ?_);first
  |(refine za2 (v:=?_) (by rfl) (by rfl) ?_ ?_;rotate_left;(focus(intro V hV;(try dsimp only at hV);(go_simp<;>with_reducible rfl)));(try simp only[ap])))
 refine za3 (by rfl) (fun K hK=>?_)
 rw[if_pos (by rfl)]
 refine wp_store_row 30 (.tmp 2) (.tmp 19) rfl w.heap.size (hdC (za1 (n16 s 0) (n16 s 2))) rfl rfl 30 _ z2 (by kernel_rfl) rfl (by kernel_rfl) ?_
 have g1:=zag w7 w.heap.size (hdC (za1 (n16 s 0) (n16 s 2)))
 have b0:=setRow_heap w7 w.heap.size _ (hdC (za1 (n16 s 0) (n16 s 2))) _ _ z2
 have b1:=(g1.block _ (Array.getElem?_eq_some_iff.1 z3).1 (by simp)).trans z3
 have b5':=(g1.block _ (Array.getElem?_eq_some_iff.1 y5_7).1 (by simp;omega)).trans y5_7
 have hE8:Ext w (w7.setRow w.heap.size (hdC (za1 (n16 s 0) (n16 s 2)))):=Below.grown hE7w g1 hE7w.size (fun k hk=>by injection hk with hk;omega)
 refine hK.out _ _ b5' ?_;clear hK K
 (try simp only[ap])
 obtain⟨V8,hV8⟩:∃V8,V8=w7.setRow w.heap.size (hdC (za1 (n16 s 0) (n16 s 2))):=⟨_,rfl⟩
 rw[←hV8]at b0 b1 b5' hE8 ⊢;clear hV8;refine za3 (by rfl) (fun K hK=>?_)
 rw[if_pos (by rfl)]
 refine wp_store_row 129 (.tmp 3) (.tmp 28) rfl (w.heap.size+1) #[.int .i64 (n16 s 4:Int),.int .i64 (n16 s 6:Int),.int .i64 (n16 s 8:Int),.int .i64 (n16 s 10:Int)] rfl rfl 129 _ b1 (by kernel_rfl) rfl (by kernel_rfl) ?_
 have g2:=zag V8 (w.heap.size+1) #[.int .i64 (n16 s 4:Int),.int .i64 (n16 s 6:Int),.int .i64 (n16 s 8:Int),.int .i64 (n16 s 10:Int)]
 have m1:=setRow_heap V8 (w.heap.size+1) _ #[.int .i64 (n16 s 4:Int),.int .i64 (n16 s 6:Int),.int .i64 (n16 s 8:Int),.int .i64 (n16 s 10:Int)] _ _ b1
 have m0:=(g2.block _ (Array.getElem?_eq_some_iff.1 b0).1 (by simp)).trans b0
 have m5:=(g2.block _ (Array.getElem?_eq_some_iff.1 b5').1 (by simp;omega)).trans b5'
 have hE9:=Below.grown hE8 g2 hE8.size (fun k hk=>by injection hk with hk;omega)
 refine hK.out _ _ m5 ?_;clear hK K
 (try simp only[ap])
 repeat((with_reducible refine za9 ?_);first
  |(refine za2 (v:=?_) (by rfl) (by rfl) ?_ ?_;rotate_left;(focus(intro V hV;(try dsimp only at hV);(go_simp<;>with_reducible rfl)));(try simp only[ap])))
 refine zar ?_;refine NoPanic.normal ?_;go_wp2_with fail;refine bodyPost_ret (zgk rfl _ _ w.heap.size (w.heap.size+1) _ _ _ _ _ _ _ _ rfl m0 Tryz.underlying30 rfl (by kernel_rfl) rfl m1 Tryz.underlying129 rfl (by kernel_rfl)) rfl ?_
 exact⟨rfl,hE9⟩
end Go.Proofs.YtdnpmapelmjfpaaGreatDoor
namespace Go.Proofs.YtdnpmapelmjfpaaGreatDoor
open Go.RowKit
set_option maxRecDepth 100000
section
variable {P : Program} {ops : Array Oper} {Q : Exit → Act → World → Prop}
theorem zaf {rest:List Oper} {o:Oper} {a:Act} {w:World} (hwn:Region.wanted o (yielded ops a.tmps)=true) (ty:TypeId) (x:Operand) (ho:o.op=.load ty x)
 (g:Nat) (hx:a.eval x=.pointer (some ⟨g,0,none⟩)) (t:TypeId) (cs:Array Value) (fr:Nat×Nat) (d:TypeDesc) (hg:w.heap[g]? =some (.cells cs t fr))
 (hu:P.underlying ty=some d) (hd:(match d with| .struct _| .array _ _=>true|_=>false)=true) (hi:(P.info? ty).map (·.size)=some cs.size)
 (h:wpList P ops Q rest (a.put o.dst (.agg cs)) w):wpList P ops Q (o::rest) a w:=
 wpList_step fun K hK=>by
  rw[if_pos hwn];exact wp_load_row ty x ho g hx t cs fr d hg hu hd hi (hK _ _ h)
end
abbrev zhl (s:Nat×Nat):Array Value:= #[.int .i64 (s.1:Int),.int .i64 (s.2:Int)]
structure StP (pp:Nat) (s:Nat×Nat) (w w':World):Prop where
 row:w'.heap[pp]? =some (.cells (zhl s) 195)
 kept:KeptB pp pp w w'
 below:Below pp w w'
theorem zjg {w:World} {pp:Nat} {s:Nat×Nat} (h:w.heap[pp]? =some (.cells (zhl s) 195)):w.cell? ⟨pp,0,none⟩=some (.int .i64 (s.1:Int))∧w.cell? ⟨pp,1,none⟩=some (.int .i64 (s.2:Int))∧(∀j,w.frozen? ⟨pp,j,none⟩=false):=by
 refine⟨?_,?_,fun j=>?_⟩<;>simp[World.cell?,World.frozen?,h]
theorem StP.refl {w:World} {pp:Nat} {s:Nat×Nat} (h:w.heap[pp]? =some (.cells (zhl s) 195)):StP pp s w w:=⟨h,KeptB.refl _ _ _,Below.refl _ _⟩
theorem StP.ext {w w1 w':World} {pp:Nat} {s:Nat×Nat} (h:StP pp s w w1) (hE:Ext w1 w'):StP pp s w w':=by
 have hz:=(Array.getElem?_eq_some_iff.1 h.row).1
 exact⟨(hE.block pp hz).trans h.row,h.kept.trans (KeptB.ext hE),h.below.trans (hE.mono (by omega))⟩
theorem StP.trans {w w1 w':World} {pp:Nat} {s s1:Nat×Nat} (h:StP pp s1 w w1) (k:StP pp s w1 w'):StP pp s w w':=⟨k.row,h.kept.trans k.kept,h.below.trans k.below⟩
theorem StP.set0 {w w1:World} {pp:Nat} {s:Nat×Nat} (h:StP pp s w w1) {m:Int} {k:Nat} (e:m=(k:Int)):StP pp (k,s.2) w (w1.setCell ⟨pp,0,none⟩ (.int .i64 m)):=by
 subst e;exact⟨za7 h.row 0 _,h.kept.trans (KeptB.set w1 0 _),h.below.setCell (Nat.le_refl _) _⟩
theorem StP.set1 {w w1:World} {pp:Nat} {s:Nat×Nat} (h:StP pp s w w1) {m:Int} {k:Nat} (e:m=(k:Int)):StP pp (s.1,k) w (w1.setCell ⟨pp,1,none⟩ (.int .i64 m)):=by
 subst e;exact⟨za7 h.row 1 _,h.kept.trans (KeptB.set w1 1 _),h.below.setCell (Nat.le_refl _) _⟩
structure GoP (lo g pp:Nat) (M:Array Value) (s:Nat×Nat) (w w':World):Prop where
 box:w'.heap[g]? =some (.cells M 45)
 prt:w'.heap[pp]? =some (.cells (zhl s) 195)
 ne:g≠pp
 kept:KeptB g pp w w'
 below:Below lo w w'
theorem GoP.lt {w w':World} {lo g pp:Nat} {M:Array Value} {s:Nat×Nat} (h:GoP lo g pp M s w w'):g<w'.heap.size∧pp<w'.heap.size:=⟨(Array.getElem?_eq_some_iff.1 h.box).1,(Array.getElem?_eq_some_iff.1 h.prt).1⟩
theorem GoP.refl {w:World} {lo g pp:Nat} {M:Array Value} {s:Nat×Nat} (h1:w.heap[g]? =some (.cells M 45)) (h2:w.heap[pp]? =some (.cells (zhl s) 195)) (h3:g≠pp):GoP lo g pp M s w w:=⟨h1,h2,h3,KeptB.refl _ _ _,Below.refl _ _⟩
theorem GoP.st {w w1 w':World} {lo g pp:Nat} {M:Array Value} {s s1:Nat×Nat} (h:GoP lo g pp M s w w1) (k:StP pp s1 w1 w') (hlo:lo≤pp):GoP lo g pp M s1 w w':=
 ⟨k.kept.row h.box h.ne h.ne,k.row,h.ne,h.kept.trans k.kept.two,h.below.trans (k.below.mono hlo)⟩
theorem GoP.more {w w1 w':World} {lo g pp:Nat} {M M1:Array Value} {s s1:Nat×Nat} (h:GoP lo g pp M s w1 w') (k:GoP lo g pp M1 s1 w w1):GoP lo g pp M s w w':=
 ⟨h.box,h.prt,h.ne,k.kept.trans h.kept,k.below.trans h.below⟩
theorem GoP.ext {w w1 w':World} {lo g pp:Nat} {M:Array Value} {s:Nat×Nat} (h:GoP lo g pp M s w w1) (hE:Ext w1 w') (hlo:lo≤w.heap.size):GoP lo g pp M s w w':=
 ⟨(hE.block g h.lt.1).trans h.box,(hE.block pp h.lt.2).trans h.prt,h.ne,h.kept.trans (KeptB.ext hE),h.below.trans (hE.mono (Nat.le_trans hlo h.kept.1))⟩
theorem GoP.setg {w w1:World} {lo g pp:Nat} {M:Array Value} {s:Nat×Nat} (h:GoP lo g pp M s w w1) (j:Nat) (u:Value) (hlo:lo≤g):GoP lo g pp (M.setIfInBounds j u) s w (w1.setCell ⟨g,j,none⟩ u):=
 ⟨za7 h.box j u,(Below.heap_setCell w1 ⟨g,j,none⟩ u pp (fun e=>h.ne e.symm)).trans h.prt,h.ne,h.kept.trans (KeptB.setg w1 j u),h.below.setCell hlo u⟩
theorem GoP.set1 {w w1:World} {lo g pp:Nat} {M:Array Value} {s:Nat×Nat} (h:GoP lo g pp M s w w1) {m:Int} {k:Nat} (e:m=(k:Int)) (hlo:lo≤pp):GoP lo g pp M (s.1,k) w (w1.setCell ⟨pp,1,none⟩ (.int .i64 m)):=
 h.st ((StP.refl h.prt).set1 e) hlo
theorem GoP.set0 {w w1:World} {lo g pp:Nat} {M:Array Value} {s:Nat×Nat} (h:GoP lo g pp M s w w1) {m:Int} {k:Nat} (e:m=(k:Int)) (hlo:lo≤pp):GoP lo g pp M (k,s.2) w (w1.setCell ⟨pp,0,none⟩ (.int .i64 m)):=
 h.st ((StP.refl h.prt).set0 e) hlo
theorem GoP.setNew {w w1:World} {lo g pp b:Nat} {M:Array Value} {s:Nat×Nat} (h:GoP lo g pp M s w w1) (hz:g<w.heap.size∧pp<w.heap.size) (hlo:lo≤pp) (hb:w.heap.size≤b) (i:Nat) (u:Value):GoP lo g pp M s w (w1.setCell ⟨b,i,none⟩ u):=
 ⟨(Below.heap_setCell w1 ⟨b,i,none⟩ u g (by dsimp only;omega)).trans h.box,(Below.heap_setCell w1 ⟨b,i,none⟩ u pp (by dsimp only;omega)).trans h.prt,h.ne,h.kept.rowx hb u,h.below.setCell (by dsimp only;omega) u⟩
theorem GoP.grown {w w1 w2:World} {lo l2 g pp n c sz:Nat} {e:TypeId} {A:Option Addr} {xs:List Value} {M:Array Value} {s:Nat×Nat} (h:GoP lo g pp M s w w1) (hz:g<l2∧pp<l2) (ho:Own w1 l2 e sz A n c xs) (hg:w1.grownBy w2 (Value.slice A n c).ownBlock) (hb:Below l2 w1 w2) (hlo:lo≤l2) (hwl:w.heap.size≤l2):GoP lo g pp M s w w2:=
 ⟨(hb.block g hz.1).trans h.box,(hb.block pp hz.2).trans h.prt,h.ne,h.kept.grown ho hwl hg,h.below.trans (hb.mono hlo)⟩
theorem zrg (d:List UInt8) (p i:Nat) (h:p+i<d.length):be ((d.drop p).take (i+1))=be ((d.drop p).take i)*256+(d[p+i]).toNat:=by
 have hl:i<(d.drop p).length:=by rw[List.length_drop];omega
 rw[zax _ i hl];unfold be;rw[List.foldl_append];simp
end Go.Proofs.YtdnpmapelmjfpaaGreatDoor
namespace Go.Proofs.YtdnpmapelmjfpaaGreatDoor
open Go.RowKit
set_option maxRecDepth 100000
theorem ztd (b:UInt8):IntKind.u64.wrap (b.toNat:Int)=(b.toNat:Int):=by
 have:=b.toNat_lt
 exact Int.emod_eq_of_lt (by omega) (by show _<(18446744073709551616:Int);omega)
theorem ziu {x:Int} (h0:0≤x) (h:x<18446744073709551616):IntKind.u64.wrap x=x:=Int.emod_eq_of_lt h0 h
theorem zkm (d:List UInt8) (p i:Nat) (hi:i≤4):be ((d.drop p).take i)<4294967296:=by
 have h3:((d.drop p).take i).length≤4:=by rw[List.length_take];omega
 exact Nat.lt_of_lt_of_le (znu _) (Nat.le_trans (Nat.pow_le_pow_right (by decide) h3) (by decide))
theorem zet (pp k:Nat) (s:Nat×Nat) (d:List UInt8) (w:World) (h:w.heap[pp]? =some (.cells (zhl s) 195)) (hd:d.length≤1048576) (hk:k≤4) (hs:okS d s):
 Calls Tryz.prog 108 #[.pointer (some ⟨pp,0,none⟩),S d,.int .i64 (k:Int)] w fun e w'=>e=.returned (.int .u64 ((zcc k d s).1:Int))∧StP pp (zcc k d s).2 w w':=by
 obtain⟨c0,c1,cf⟩:=zjg h
 have f0:=cf 0
 have f1:=cf 1
 have HP:=Lib.hid (StP.refl h)
 obtain⟨p,er⟩:=s
 dsimp only at c0 c1;by_cases he:er=0
 ·subst he;have hp:p≤d.length:=hs rfl
  have hsub:IntKind.i64.wrap ((d.length:Int) - (p:Int))=(d.length:Int) - (p:Int):=IntWalk.i64_in _ (by omega)
  by_cases hsh:d.length<p+k
  ·have hN:zcc k d (p,0)=(0,(p,4)):=by unfold zcc;rw[if_neg (by simp),if_pos hsh]
   have hlt:(d.length:Int) - (p:Int)<(k:Int):=by omega
   rw[hN];clear hN hs h;go_enter Tryz.func108,Tryz.ntmps108;go_wp2_with fail;go_ret;exact⟨rfl,HP.out.set1 rfl⟩
  ·have hN:zcc k d (p,0)=(be ((d.drop p).take k),(p+k,0)):=by unfold zcc;rw[if_neg (by simp),if_neg hsh]
   have hlt:¬(d.length:Int) - (p:Int)<(k:Int):=by omega
   rw[hN];clear hN hs h;go_enter Tryz.func108,Tryz.ntmps108;go_wp2_with fail
   go_loop [7,8] (fun v i=>∃j:Nat,j≤k∧i=.int .i64 j∧v=.int .u64 (be ((d.drop p).take j):Nat)) (fun _ i=>k - (intOf i).toNat)
   case atStart=>exact⟨0,by omega,rfl,rfl⟩
   case round=>
    obtain⟨j,hj,rfl,rfl⟩:=hrel
    by_cases hlt2:j<k
    ·have hpj:p+j<d.length:=by omega
     obtain⟨c,Hb,hget,hwb,hbd⟩:=zc6 d (p+j) hpj
     have Hst:=Lib.hid (zrg d p j hpj)
     have hx:=zkm d p j (by omega)
     have hji:(j:Int)<(k:Int):=by omega
     generalize be ((d.drop p).take j)=x at*;have hu1:IntKind.u64.wrap ((x:Int)*256)=(x:Int)*256:=ziu (by omega) (by omega)
     have hu2:IntKind.u64.wrap (c.toNat:Int)=(c.toNat:Int):=ztd c
     have hu3:IntKind.u64.wrap ((x:Int)*256+(c.toNat:Int))=(x:Int)*256+(c.toNat:Int):=ziu (by omega) (by omega)
     have et:((p:Int)+(j:Int)).toNat=p+j:=by omega
     have hpj2:(p:Int)+(j:Int)<(d.length:Int):=by omega
     have hw1:IntKind.i64.wrap ((p:Int)+(j:Int))=(p:Int)+(j:Int):=IntWalk.i64_in _ (by omega)
     go_wp2_with fail;go_round
     case rel=>exact⟨j+1,by omega,by go_num,by rw[Hst.out,Hb.out];push_cast;rfl⟩
     case measure=>simp[intOf];omega
    ·obtain rfl:j=k:=by omega
     have hji:¬(j:Int)<(j:Int):=by omega
     have hw1:IntKind.i64.wrap ((p:Int)+(j:Int))=(p:Int)+(j:Int):=IntWalk.i64_in _ (by omega)
     go_wp2_with fail;go_ret;exact⟨rfl,HP.out.set0 (by omega)⟩
 ·have hN:zcc k d (p,er)=(0,(p,er)):=zcn he
  have f2:((er:Int)==0)=false:=zbq he
  have f3:((er:Int)!=0)=true:=by rw[bne,f2];rfl
  have f4:¬(er:Int)=0:=by omega
  rw[hN];clear hN hs h he;go_enter Tryz.func108,Tryz.ntmps108;go_wp2_with fail;go_ret;exact⟨rfl,HP.out⟩
theorem zqi (pp:Nat) (s:Nat×Nat) (d:List UInt8) (w:World) (h:w.heap[pp]? =some (.cells (zhl s) 195)) (hd:d.length≤1048576) (hs:okS d s):
 Calls Tryz.prog 107 #[.pointer (some ⟨pp,0,none⟩),S d] w fun e w'=>e=.returned (S (zci d s).1)∧StP pp (zci d s).2 w w':=by
 obtain⟨c0,c1,cf⟩:=zjg h
 have f0:=cf 0
 have f1:=cf 1
 have HP:=Lib.hid (StP.refl h)
 obtain⟨p,er⟩:=s
 dsimp only at c0 c1;by_cases he:er=0
 ·subst he;have hp:p≤d.length:=hs rfl
  rw[zgd];have HR:=Lib.hid (zst d p w hd hp)
  generalize readN d p=R at*;obtain⟨n,q,er⟩:=R
  dsimp only at*;clear hs h;go_enter Tryz.func107,Tryz.ntmps107;go_wp2_with fail;refine HR.out.mono ?_;rintro e w2 ⟨rfl,rfl⟩;go_wp2_with fail;go_ret;exact⟨rfl,(HP.out.set0 rfl).set1 rfl⟩
 ·have hN:zci d (p,er)=([],(p,er)):=zyx he
  have f2:((er:Int)==0)=false:=zbq he
  have f3:((er:Int)!=0)=true:=by rw[bne,f2];rfl
  have f4:¬(er:Int)=0:=by omega
  rw[hN];clear hN hs h he;go_enter Tryz.func107,Tryz.ntmps107;go_wp2_with fail;go_ret;exact⟨rfl,HP.out⟩
structure StC (cp:Nat) (d:List UInt8) (p:Nat) (w w':World):Prop where
 row:w'.heap[cp]? =some (.cells (zbr d p) 332)
 kept:KeptB cp cp w w'
 below:Below cp w w'
theorem zi0 {w:World} {cp p:Nat} {d:List UInt8} (h:w.heap[cp]? =some (.cells (zbr d p) 332)):w.cell? ⟨cp,0,none⟩=some (S d)∧w.cell? ⟨cp,1,none⟩=some (.int .i64 (p:Int))∧w.frozen? ⟨cp,1,none⟩=false:=by
 refine⟨?_,?_,?_⟩<;>simp[World.cell?,World.frozen?,h]
theorem StC.set {w w1:World} {cp p:Nat} {d:List UInt8} (h:w.heap[cp]? =some (.cells (zbr d p) 332)) (hE:Ext w w1) {m:Int} {k:Nat} (e:m=(k:Int)):StC cp d k w (w1.setCell ⟨cp,1,none⟩ (.int .i64 m)):=by
 subst e;have hz:=(Array.getElem?_eq_some_iff.1 h).1
 have h':=(hE.block cp hz).trans h
 exact⟨za7 h' 1 _,(KeptB.ext hE).trans (KeptB.set w1 1 _),(hE.mono (show cp≤w.heap.size by omega)).setCell (Nat.le_refl _) _⟩
theorem zmx {w:World} {cp p v p':Nat} {d:List UInt8} (h:w.heap[cp]? =some (.cells (zbr d p) 332)) (hd:d.length≤1048576) (hn:zaq 2 d p=.ok (v,p')):
 Calls Tryz.prog 219 #[.pointer (some ⟨cp,0,none⟩),.int .i64 2] w fun e w'=>e=.returned (.tuple #[.int .u64 (v:Int),.int .i64 0])∧StC cp d p' w w':=by
 obtain⟨h1,h2,h3⟩:=zd5 hn
 obtain⟨c0,c1,cf⟩:=zi0 h
 have hsub:IntKind.i64.wrap ((d.length:Int) - (p:Int))=(d.length:Int) - (p:Int):=IntWalk.i64_in _ (by omega)
 have hlt:¬(d.length:Int) - (p:Int)<2:=by omega
 have HS:=Lib.hid (fun w1 (hE:Ext w w1)=>StC.set h hE (m:=(p:Int)+2) (k:=p') (by omega))
 have hw2:IntKind.i64.wrap ((p:Int)+2)=(p:Int)+2:=IntWalk.i64_in _ (by omega)
 rw[h3];clear h hn h1 h3;go_enter Tryz.func219,Tryz.ntmps219;go_wp2_with fail;go_region
 (try simp only[Exit.inBlock,Exit.then])
 go_wp2_with fail
 go_loopw [6,7] (fun v i wr=>∃j:Nat,j≤2∧i=.int .i64 j∧v=.int .u64 (be ((d.drop p).take j):Nat)∧Ext w wr) (fun _ i _=>2 - (intOf i).toNat)
 case atStart=>exact⟨0,by omega,rfl,rfl,(Ext.refl _).drew⟩
 case round=>
  obtain⟨j,hj,rfl,rfl,hE⟩:=hrel
  obtain⟨wo,rfl⟩:∃wo:World,wo=wr:=⟨_,rfl⟩
  have hz:cp<w.heap.size:=by
   by_cases hz:cp<w.heap.size
   ·exact hz
   ·simp[World.cell?,Array.getElem?_eq_none (by omega:w.heap.size≤cp)]at c0
  have d0:=(hE.cell (p:=⟨cp,0,none⟩) hz).trans c0
  have d1:=(hE.cell (p:=⟨cp,1,none⟩) hz).trans c1
  have df:=(hE.frozen (p:=⟨cp,1,none⟩) hz).trans cf
  by_cases hlt2:j<2
  ·have hpj:p+j<d.length:=by omega
   obtain⟨c,Hb,hget,hwb,hbd⟩:=zc6 d (p+j) hpj
   have Hst:=Lib.hid (zrg d p j hpj)
   have hx:=zkm d p j (by omega)
   have hji:(j:Int)<2:=by omega
   generalize be ((d.drop p).take j)=x at*;have hu1:IntKind.u64.wrap (256*(x:Int))=256*(x:Int):=ziu (by omega) (by omega)
   have hu2:IntKind.u64.wrap (c.toNat:Int)=(c.toNat:Int):=ztd c
   have hu3:IntKind.u64.wrap (256*(x:Int)+(c.toNat:Int))=256*(x:Int)+(c.toNat:Int):=ziu (by omega) (by omega)
   have et:((p:Int)+(j:Int)).toNat=p+j:=by omega
   have hpj2:(p:Int)+(j:Int)<(d.length:Int):=by omega
   have hw1:IntKind.i64.wrap ((p:Int)+(j:Int))=(p:Int)+(j:Int):=IntWalk.i64_in _ (by omega)
   go_wp2_with fail;go_region
   (try simp only[Exit.inBlock,Exit.then])
   go_wp2_with fail;go_roundw
   case rel=>exact⟨j+1,by omega,by go_num,by rw[Hst.out,Hb.out];push_cast;rw[Int.mul_comm],hE.drew⟩
   case measure=>simp[intOf];omega
  ·obtain rfl:j=2:=by omega
   go_wp2_with fail
   go_ret2
   exact⟨rfl,HS.out _ hE⟩
theorem zjk {w:World} {cp p x:Nat} {d:List UInt8} (h:w.heap[cp]? =some (.cells (zbr d p) 332)) (hd:d.length≤1048576) (hp:p≤d.length) (hn:zaq 2 d p=.error x):
 Calls Tryz.prog 219 #[.pointer (some ⟨cp,0,none⟩),.int .i64 2] w fun e w'=>e=.returned (.tuple #[.int .u64 0,.int .i64 4])∧Ext w w':=by
 obtain⟨h1,h2⟩:=zcv hn
 obtain⟨c0,c1,cf⟩:=zi0 h
 have hsub:IntKind.i64.wrap ((d.length:Int) - (p:Int))=(d.length:Int) - (p:Int):=IntWalk.i64_in _ (by omega)
 have hlt:(d.length:Int) - (p:Int)<2:=by omega
 clear h hn;go_enter Tryz.func219,Tryz.ntmps219;go_wp2_with fail;go_region
 (try simp only[Exit.inBlock,Exit.then])
 go_wp2_with fail
 go_ret2
 exact⟨rfl,(Ext.refl _).drew⟩
theorem zzi {w:World} {cp p:Nat} {d:List UInt8} (m:Nat) (h:w.heap[cp]? =some (.cells (zbr d p) 332)) (hd:d.length≤1048576) (hm:p+m≤d.length):
 Calls Tryz.prog 220 #[.pointer (some ⟨cp,0,none⟩),.int .i64 m] w fun e w'=>e=.returned (.tuple #[S ((d.drop p).take m),.int .i64 0])∧StC cp d (p+m) w w':=by
 obtain⟨c0,c1,cf⟩:=zi0 h
 have hsub:IntKind.i64.wrap ((d.length:Int) - (p:Int))=(d.length:Int) - (p:Int):=IntWalk.i64_in _ (by omega)
 have hlt:¬(d.length:Int) - (p:Int)<(m:Int):=by omega
 have h0:¬(m:Int)<0:=by omega
 have hw1:IntKind.i64.wrap ((p:Int)+(m:Int))=(p:Int)+(m:Int):=IntWalk.i64_in _ (by omega)
 have e1:((p:Int)+(m:Int)).toNat=p+m:=by omega
 have e2:(0:Int)≤(p:Int):=by omega
 have e3:(p:Int)≤(p:Int)+(m:Int):=by omega
 have e4:(p:Int)+(m:Int)≤(d.length:Int):=by omega
 have HS:=Lib.hid (fun w1 (hE:Ext w w1)=>StC.set h hE (m:=(p:Int)+(m:Int)) (k:=p+m) (by omega))
 clear h;go_enter Tryz.func220,Tryz.ntmps220;go_wp2_with fail;go_region
 (try simp only[Exit.inBlock,Exit.then])
 go_wp2_with fail;go_region
 (try simp only[Exit.inBlock,Exit.then])
 go_wp2_with fail
 go_ret2
 exact⟨rfl,HS.out _ (Ext.refl _).drew.drew⟩
theorem zsq {w:World} {cp p:Nat} {d:List UInt8} (m:Nat) (h:w.heap[cp]? =some (.cells (zbr d p) 332)) (hd:d.length≤1048576) (hp:p≤d.length) (hm:d.length<p+m):
 Calls Tryz.prog 220 #[.pointer (some ⟨cp,0,none⟩),.int .i64 m] w fun e w'=>e=.returned (.tuple #[S [],.int .i64 4])∧Ext w w':=by
 obtain⟨c0,c1,cf⟩:=zi0 h
 have hsub:IntKind.i64.wrap ((d.length:Int) - (p:Int))=(d.length:Int) - (p:Int):=IntWalk.i64_in _ (by omega)
 have hlt:(d.length:Int) - (p:Int)<(m:Int):=by omega
 have h0:¬(m:Int)<0:=by omega
 clear h;go_enter Tryz.func220,Tryz.ntmps220;go_wp2_with fail;go_region
 (try simp only[Exit.inBlock,Exit.then])
 go_wp2_with fail
 go_ret2
 exact⟨rfl,(Ext.refl _).drew⟩
def zEd (R:List Pc×Nat) (w:World) (e:Ending) (w':World):Prop:=
 ((R.2=0∧e=.returned (.tuple #[S (textOf R.1),.int .i64 0]))∨(R.2≠0∧∃k:Nat,k≠0∧e=.returned (.tuple #[S [],.int .i64 (k:Int)])))∧Ext w w'
theorem zzm (msg:List UInt8) (at_ n:Nat) (kind:Int) (w:World) (hl:msg.length≤1048576) (hn:at_+n≤msg.length):
 Calls Tryz.prog 169 #[S msg,.int .i64 at_,.int .i64 n,.int .u16 kind] w (zEd (splitOf (msg.take (at_+n)) at_ kind) w):=by
 have hlt:(msg.take (at_+n)).length=at_+n:=by rw[List.length_take];omega
 have Hs:=Lib.hid (zoc (msg.take (at_+n)) at_ kind w (by omega) (by omega))
 have hbd:=zib (msg.take (at_+n)) at_ kind
 have HSm:=zhp (msg.take (at_+n)) at_ kind (by omega)
 generalize splitOf (msg.take (at_+n)) at_ kind=R0 at*;generalize refPieces (msg.take (at_+n)) at_ kind=R at*;obtain⟨l,er⟩:=R
 obtain⟨l0,er0⟩:=R0
 obtain⟨hz,htx⟩:=HSm
 dsimp only at*;rw[hlt]at hbd;have h1:¬(at_:Int)<0:=by omega
 have h2:¬(n:Int)<0:=by omega
 have h3:¬(msg.length:Int)<(at_:Int):=by omega
 have hs:IntKind.i64.wrap ((msg.length:Int) - at_)=(msg.length:Int) - at_:=IntWalk.i64_in _ (by omega)
 have hs2:IntKind.i64.wrap ((at_:Int)+n)=(at_:Int)+n:=IntWalk.i64_in _ (by omega)
 have h4:¬((msg.length:Int) - at_<n):=by omega
 have e2:((at_:Int)+n).toNat=at_+n:=by omega
 have e3:(0:Int)≤(at_:Int)+n:=by omega
 have e4:(at_:Int)+n≤msg.length:=by omega
 have Hb:=Lib.hid (show l.length≤4∧∀p∈l,p.s.length≤2097152 from⟨hbd.1,fun p hp=>Nat.le_trans (hbd.2 p hp) (by omega)⟩)
 clear hbd hlt hl hn;by_cases her:er=0
 ·subst her;have He0:=Lib.hid (hz.2 rfl)
  have Ht:=Lib.hid (htx (hz.2 rfl)).1
  clear hz htx;go_enter Tryz.func169,Tryz.ntmps169;go_wp2_with fail;refine Hs.out.mono ?_;rintro e w1 ⟨v,rfl,hP,hE1⟩;go_wp2_with fail;refine(zkb _ v l w1 hP Hb.out.1 Hb.out.2).mono ?_;rintro e w2 ⟨rfl,rfl⟩;go_wp2_with fail
  go_ret2
  exact⟨.inl ⟨He0.out,by show _=Ending.returned (.tuple #[S (textOf l0),_]);rw[Ht.out];rfl⟩,hE1⟩
 ·have f1:((er:Int)==0)=false:=zbq her
  have f2:((er:Int)!=0)=true:=by rw[bne,f1];rfl
  have Her:=Lib.hid her
  have Her0:=Lib.hid (fun h=>her (hz.1 h))
  clear her hz htx;go_enter Tryz.func169,Tryz.ntmps169;go_wp2_with fail;refine Hs.out.mono ?_;rintro e w1 ⟨v,rfl,hP,hE1⟩;go_wp2_with fail
  go_ret2
  exact⟨.inr ⟨Her0.out,er,Her.out,rfl⟩,hE1⟩
def zwv:Option Value→Nat
 |some (.int _ i)=>i.toNat
 |_=>0
abbrev zg7 (cls ttl:Nat) (o:Value):Array Value:= #[.int .u16 (cls:Int),.int .u8 ((ttl:Int)/16777216),.int .u8 ((ttl:Int)/65536%256),.int .u16 ((ttl:Int)%65536),o]
structure EdInvR (W:World) (b8 cp:Nat) (cls ttl:Nat) (d:List UInt8) (R:Except Nat (List OpD)) (p f:Nat) (l:List OpD) (A:Option Addr) (c:Nat) (wr:World):Prop where
 pd:p≤d.length
 lp:l.length≤p
 row:wr.heap[cp]? =some (.cells (zbr d p) 332)
 box:wr.heap[b8]? =some (.cells (zg7 cls ttl (.slice A l.length c)) 43)
 own:Own wr (cp+1) 182 2 A l.length c (l.flatMap zcw)
 ext:Ext W wr
 fu:(d.drop p).length<f
 eq:R=zfr l (zdp f (d.drop p))
theorem EdInvR.pos {W wr:World} {b8 cp cls ttl p f c:Nat} {d:List UInt8} {R:Except Nat (List OpD)} {l:List OpD} {A:Option Addr} (h:EdInvR W b8 cp cls ttl d R p f l A c wr):zwv (wr.cell? ⟨cp,1,none⟩)=p:=by
 rw[(zi0 h.row).2.1];exact Int.toNat_natCast _
theorem zzn (cls ttl:Nat) (d:List UInt8) (w:World) (hd:d.length≤1048576) (hc:cls≤65535) (ht:ttl≤4294967295):
 Calls Tryz.prog 168 #[.int .u16 (cls:Int),.int .u32 (ttl:Int),S d] w (zup (edR cls ttl d) w):=by
 obtain⟨R,hR⟩:∃R,R=zp8 d:=⟨_,rfl⟩
 have HRe:=Lib.hid (show edR cls ttl d=zB4 cls ttl R by rw[hR,zv4])
 have HR:=Lib.hid hR
 clear hR;obtain⟨i0,hi0,hz0,hz1,hz2⟩:=info_parts zs2
 obtain⟨W,hW⟩:∃W,W=w.alloc (.cells #[.int .u16 0,.int .u8 0,.int .u8 0,.int .u16 0,.slice none 0 0] 43):=⟨_,rfl⟩
 have hwW:Ext w W:=by rw[hW];exact(Ext.refl _).alloc _
 have r0:W.heap[w.heap.size]? =some (.cells #[.int .u16 0,.int .u8 0,.int .u8 0,.int .u16 0,.slice none 0 0] 43):=by rw[hW];exact heap_alloc_new _ _
 go_enter Tryz.func168,Tryz.ntmps168;go_upto_region 1 with fail
 rw[←hW];clear hW;go_upto_region 3 with fail
 obtain⟨X,hX⟩:∃X,X=(W.alloc (.cells (zg7 cls ttl (.slice none 0 0)) 43)).alloc (.cells (zbr d 0) 332):=⟨_,rfl⟩
 have hX':(W.alloc (.cells #[.int .u16 (cls:Int),.int .u8 ((ttl:Int)/16777216),.int .u8 ((ttl:Int)/65536%256),.int .u16 ((ttl:Int)%65536),.slice none 0 0] 43)).alloc (.cells #[S d,.int .i64 0] 332)=X:=hX.symm
 obtain⟨b8,hb8⟩:∃b8,b8=W.heap.size:=⟨_,rfl⟩
 obtain⟨cp,hcp⟩:∃cp,cp=W.heap.size+1:=⟨_,rfl⟩
 have x0:=heap_alloc_new W (.cells (zg7 cls ttl (.slice none 0 0)) 43)
 have x1:X.heap[b8]? =some (.cells (zg7 cls ttl (.slice none 0 0)) 43):=by rw[hX,hb8];exact(heap_alloc_old _ _ (Array.getElem?_eq_some_iff.1 x0).1).trans x0
 have x2:X.heap[cp]? =some (.cells (zbr d 0) 332):=by rw[hX,hcp];exact heap_alloc2_new W _ _
 have hWX:Ext W X:=by rw[hX];exact((Ext.refl _).alloc _).alloc _
 have hcb:b8<cp:=by omega
 have hWb:W.heap.size≤b8:=by omega
 have hwb:w.heap.size<W.heap.size:=(Array.getElem?_eq_some_iff.1 r0).1
 rw[hX',←hcp,←hb8];clear hX hX' hcp hb8 x0
 go_loopw [10] (fun _ wr=>∃(p f:Nat) (l:List OpD) (A:Option Addr) (c:Nat),EdInvR W b8 cp cls ttl d R p f l A c wr) (fun _ wr=>d.length - zwv (wr.cell? ⟨cp,1,none⟩))
 case atStart=>exact⟨0,d.length+1,[],none,0,⟨Nat.zero_le _,by simp,x2,x1,Own.nil _ _ _ _,hWX,by rw[List.drop_zero];omega,by rw[HR.out,zq1,List.drop_zero];rfl⟩⟩
 case round=>
  obtain⟨p,f,l,A,c,hI⟩:=hrel
  obtain⟨wo,rfl⟩:∃wo:World,wo=wr:=⟨_,rfl⟩
  have hlp:=hI.lp
  have hpd:=hI.pd
  have hpos:=Lib.hid hI.pos
  obtain⟨c0,c1,cf⟩:=zi0 hI.row
  by_cases hlt:p<d.length
  ·have hgt:(p:Int)<(d.length:Int):=by omega
   have HST:=Lib.hid (zsc hlt hI.fu)
   have hw2:Ext w wo:=hwW.trans hI.ext
   have R0:=Lib.hid (fun V (hV:Ext W V)=>(hV.block _ (Array.getElem?_eq_some_iff.1 r0).1).trans r0)
   rcases h1:zaq 2 d p with x|⟨v1,p1⟩
   ·obtain⟨rfl,hsh⟩:=zcv h1
    have HT:=Lib.hid (zjk hI.row hd hpd h1)
    have HF:=Lib.hid (show R=.error 4 by
     rw[hI.eq];rcases HST.out with⟨_,h⟩|⟨h,_⟩|⟨h,_⟩
     ·rw[h];rfl
     ·omega
     ·omega)
    clear h1;go_wp2_with fail;refine HT.out.mono ?_;rintro e w3 ⟨rfl,hE3⟩;go_upto_region 6 with fail
    refine wp_region_lit ?_
    repeat(first
     |(refine Go.wpList_store_rowTo rfl 43 (.tmp 6) (.tmp 43) rfl rfl w.heap.size #[.int .u16 0,.int .u8 0,.int .u8 0,.int .u16 0,.slice none 0 0] rfl rfl 43 _ (R0.out _ (hI.ext.trans hE3)) (by kernel_rfl) rfl (by kernel_rfl) ?_)
     |go_step)
    (try simp only[Exit.inBlock,Exit.then])
    refine bodyPost_ret (zau rfl _ _ w.heap.size _ _ _ _ rfl (setRow_heap w3 w.heap.size _ _ _ _ (R0.out _ (hI.ext.trans hE3))) Tryz.underlying43 rfl (by kernel_rfl)) rfl ?_
    exact⟨.inl ⟨4,by rw[HRe.out,HF.out];rfl,rfl⟩,Below.grown (hw2.trans hE3) (zag w3 _ _) (hw2.trans hE3).size (fun k hk=>by injection hk with hk;omega)⟩
   ·obtain⟨e1,hle1,hv1⟩:=zd5 h1
    have hb1:=zcm h1
    have HT:=Lib.hid (zmx hI.row hd h1)
    have Hv1:=Lib.hid (show v1=n16 d p from hv1)
    subst e1;clear h1 hv1;go_wp2_with fail;refine HT.out.mono ?_;rintro e w3 ⟨rfl,hst3⟩;have hrow3:=hst3.row
    have hbox3:=hst3.kept.row hI.box (by omega) (by omega)
    have hW3:Ext W w3:=hI.ext.then hst3.below (by omega)
    have hw3:Ext w w3:=hwW.trans hW3
    have hown3:=hI.own.keptB hst3.kept (by omega) (by omega)
    clear hst3;rcases h2:zaq 2 d (p+2)with x|⟨v2,p2⟩
    ·obtain⟨rfl,hsh⟩:=zcv h2
     have HT2:=Lib.hid (zjk hrow3 hd hle1 h2)
     have HF:=Lib.hid (show R=.error 4 by
      rw[hI.eq];rcases HST.out with⟨_,h⟩|⟨h,_⟩|⟨h,_⟩
      ·rw[h];rfl
      ·omega
      ·omega)
     clear h2;go_wp2_with fail;refine HT2.out.mono ?_;rintro e w4 ⟨rfl,hE4⟩;go_upto_region 9 with fail
     refine wp_region_lit ?_
     repeat(first
      |(refine Go.wpList_store_rowTo rfl 43 (.tmp 6) (.tmp 52) rfl rfl w.heap.size #[.int .u16 0,.int .u8 0,.int .u8 0,.int .u16 0,.slice none 0 0] rfl rfl 43 _ (R0.out _ (hW3.trans hE4)) (by kernel_rfl) rfl (by kernel_rfl) ?_)
      |go_step)
     (try simp only[Exit.inBlock,Exit.then])
     refine bodyPost_ret (zau rfl _ _ w.heap.size _ _ _ _ rfl (setRow_heap w4 w.heap.size _ _ _ _ (R0.out _ (hW3.trans hE4))) Tryz.underlying43 rfl (by kernel_rfl)) rfl ?_
     exact⟨.inl ⟨4,by rw[HRe.out,HF.out];rfl,rfl⟩,Below.grown (hw3.trans hE4) (zag w4 _ _) (hw3.trans hE4).size (fun k hk=>by injection hk with hk;omega)⟩
    ·obtain⟨e2,hle2,hv2⟩:=zd5 h2
     have hb2:=zcm h2
     have HT2:=Lib.hid (zmx hrow3 hd h2)
     have Hv2:=Lib.hid (show v2=n16 d (p+2)from hv2)
     subst e2;clear h2 hv2;rw[←Hv2.out]at HST;go_wp2_with fail;refine HT2.out.mono ?_;rintro e w4 ⟨rfl,hst4⟩;have hrow4:=hst4.row
     have hbox4:=hst4.kept.row hbox3 (by omega) (by omega)
     have hW4:Ext W w4:=hW3.then hst4.below (by omega)
     have hw4:Ext w w4:=hwW.trans hW4
     have hown4:=hown3.keptB hst4.kept (by omega) (by omega)
     have hv64:IntKind.i64.wrap (v2:Int)=(v2:Int):=IntWalk.i64_in _ (by omega)
     clear hst4;by_cases h3:d.length<p+2+2+v2
     ·have HT3:=Lib.hid (zsq v2 hrow4 hd hle2 h3)
      have HF:=Lib.hid (show R=.error 4 by
       rw[hI.eq];rcases HST.out with⟨h,_⟩|⟨_,_,h⟩|⟨h,_⟩
       ·omega
       ·rw[h];rfl
       ·omega)
      clear h3;go_wp2_with fail;refine HT3.out.mono ?_;rintro e w5 ⟨rfl,hE5⟩;go_upto_region 12 with fail
      refine wp_region_lit ?_
      repeat(first
       |(refine Go.wpList_store_rowTo rfl 43 (.tmp 6) (.tmp 63) rfl rfl w.heap.size #[.int .u16 0,.int .u8 0,.int .u8 0,.int .u16 0,.slice none 0 0] rfl rfl 43 _ (R0.out _ (hW4.trans hE5)) (by kernel_rfl) rfl (by kernel_rfl) ?_)
       |go_step)
      (try simp only[Exit.inBlock,Exit.then])
      refine bodyPost_ret (zau rfl _ _ w.heap.size _ _ _ _ rfl (setRow_heap w5 w.heap.size _ _ _ _ (R0.out _ (hW4.trans hE5))) Tryz.underlying43 rfl (by kernel_rfl)) rfl ?_
      exact⟨.inl ⟨4,by rw[HRe.out,HF.out];rfl,rfl⟩,Below.grown (hw4.trans hE5) (zag w5 _ _) (hw4.trans hE5).size (fun k hk=>by injection hk with hk;omega)⟩
     ·have HT3:=Lib.hid (zzi v2 hrow4 hd (by omega))
      obtain⟨f',hf',hstep⟩:∃f',(d.drop (p+4+v2)).length<f'∧∀l,zfr l (zdp f (d.drop p))=zfr (l++[⟨n16 d p,(d.drop (p+4)).take v2⟩]) (zdp f' (d.drop (p+4+v2))):=by
       rcases HST.out with⟨h,_⟩|⟨_,h,_⟩|⟨_,h⟩
       ·omega
       ·omega
       ·exact h
      have HF:=Lib.hid (hI.eq.trans (hstep l))
      rw[←Hv1.out]at HF;have hp4:p+2+2=p+4:=by omega
      rw[hp4]at HT3;clear hp4 hstep HST;go_wp2_with fail;refine HT3.out.mono ?_;rintro e w5 ⟨rfl,hst5⟩;have hrow5:=hst5.row
      have hbox5:=hst5.kept.row hbox4 (by omega) (by omega)
      have hW5:Ext W w5:=hW4.then hst5.below (by omega)
      have hown5:=hown4.keptB hst5.kept (by omega) (by omega)
      have hlt5:=(Array.getElem?_eq_some_iff.1 hrow5).1
      have z4:=za0 (j:=4) hbox5 rfl
      have u1:IntKind.u16.wrap (v1:Int)=(v1:Int):=Int.emod_eq_of_lt (by omega) (by show _<(65536:Int);omega)
      clear hst5 c0 c1 cf;generalize (d.drop (p+4)).take v2=od at*;go_wp2_with(first
       |(at_builtin
         refine zai _ rfl (.tmp 66) (.tmp 71) _ rfl (cp+1) 182 i0 _ 2 24 Tryz.underlying41 hi0 hz0 hz1 hz2 rfl (by omega) A l.length c (l.flatMap zcw) rfl (hown5.ext ((Ext.refl _).alloc _)) 0 _ 1 1 (zcw ⟨v1,od⟩) rfl (zaz _ _ (by simp) _ _ 1 2 rfl) (zyy _) (by omega) (by omega) (by simp;omega) ?_
         intro A6 c6 w6 hown6 hg6 hb6 hat6;have hbox6:w6.heap[b8]? =some (.cells (zg7 cls ttl (.slice A l.length c)) 43):=(hb6.block b8 (by omega)).trans ((heap_alloc_old _ _ (Array.getElem?_eq_some_iff.1 hbox5).1).trans hbox5)
         have j4:=za0 (j:=4) hbox6 rfl
         have g4:=zab (j:=4) hbox6)
       |fail)
      have hrow6:w6.heap[cp]? =some (.cells (zbr d (p+4+v2)) 332):=(hb6.block cp (by omega)).trans ((heap_alloc_old _ _ hlt5).trans hrow5)
      have hW6:Ext W w6:=(hW5.alloc _).then hb6 (by omega)
      go_roundw
      case rel=>
       refine⟨p+4+v2,f',l++[⟨v1,od⟩],A6,c6,⟨by omega,by simp;omega,(Below.heap_setCell w6 ⟨b8,4,none⟩ _ cp (by dsimp only;omega)).trans hrow6,?_,?_,hW6.setCell (by dsimp only;omega) _,hf',HF.out⟩⟩
       ·rw[List.length_append];exact za7 hbox6 4 _
       ·have:=hown6.set_other (p:=⟨b8,4,none⟩) (by dsimp only;omega) (.slice A6 (l.length+1) c6)
        simpa using this
      case measure=>
       have hn:zwv ((w6.setCell ⟨b8,4,none⟩ (.slice A6 (l.length+1) c6)).cell? ⟨cp,1,none⟩)=p+4+v2:=by
        have h:=(Below.heap_setCell w6 ⟨b8,4,none⟩ (.slice A6 (l.length+1) c6) cp (by dsimp only;omega)).trans hrow6
        rw[(zi0 h).2.1];exact Int.toNat_natCast _
       rw[hpos.out];refine Nat.lt_of_le_of_lt (Nat.le_of_eq (congrArg (d.length - ·) hn)) ?_
       (try dsimp only)
       omega
  ·have HF:=Lib.hid (show R=.ok l by
    have hd0:d.drop p=[]:=List.drop_of_length_le (by omega)
    have hfu:=hI.fu
    rw[hI.eq,hd0,zv9 f (by omega)]
    simp[zfr])
   have hlt2:¬(p:Int)<(d.length:Int):=by omega
   have R0:=(hI.ext.block _ (Array.getElem?_eq_some_iff.1 r0).1).trans r0
   have hcap:=hI.own.cap
   have hbox:=hI.box
   go_upto_region 14 with fail
   refine wp_region_lit ?_
   repeat(first
    |(refine zaf (by rfl) 43 (.tmp 8) rfl b8 rfl _ (zg7 cls ttl (.slice A l.length c)) _ _ hbox Tryz.underlying43 rfl (by kernel_rfl) ?_)
    |(refine Go.wpList_store_rowTo rfl 43 (.tmp 6) (.tmp 74) rfl rfl w.heap.size (zg7 cls ttl (.slice A l.length c)) rfl rfl 43 _ R0 (by kernel_rfl) rfl (by kernel_rfl) ?_)
    |go_step)
   (try simp only[Exit.inBlock,Exit.then])
   refine bodyPost_ret (zau rfl _ _ w.heap.size _ _ _ _ rfl (setRow_heap wo w.heap.size _ _ _ _ R0) Tryz.underlying43 rfl (by kernel_rfl)) rfl ?_
   have hw2:=hwW.trans hI.ext
   have hk:Own (wo.setRow w.heap.size (zg7 cls ttl (.slice A l.length c))) (cp+1) 182 2 A l.length c (l.flatMap zcw):=
    hI.own.kept (zag wo _ _) (.inr fun he=>by have:=(hI.own.blk _ he).1;omega)
   refine⟨.inr ⟨⟨cls,(ttl/16777216:Nat),(ttl/65536%256:Nat),(ttl%65536:Nat),l⟩,.slice A l.length c,by rw[HRe.out,HF.out];rfl,?_,⟨A,c,rfl,hcap.1,hcap.2,hk.rd.lower (by omega),fun k hkk=>?_⟩⟩,Below.grown hw2 (zag wo _ _) hw2.size (fun k hk=>by injection hk with hk;omega)⟩
   ·have e1:(ttl:Int)/16777216=((ttl/16777216:Nat):Int):=by omega
    have e2:(ttl:Int)/65536%256=((ttl/65536%256:Nat):Int):=by omega
    have e3:(ttl:Int)%65536=((ttl%65536:Nat):Int):=by omega
    unfold zg7;rw[e1,e2,e3];rfl
   ·obtain⟨cur,hc⟩:=hk.row k hkk
    exact⟨by have:=(hk.blk k hkk).1;omega,cur,_,hc⟩
abbrev za4 (h:HdD) (q a u x:Value) (he:Bool) (e:EdD) (o:Value):Array Value:= #[.int .u16 h.id,.bool h.qr,.int .u8 h.op,.bool h.aa,.bool h.tc,.bool h.rd,.bool h.ra,.bool h.z,.bool h.ad,.bool h.cd,.int .u8 h.code,q,a,u,x,.bool he,.int .u16 e.size,.int .u8 e.ext,.int .u8 e.ver,.int .u16 e.flags,o]
abbrev rcC (r:RecD):Array Value:= #[S r.name,.int .u16 r.typ,.int .u16 r.cls,.int .u32 r.ttl,S r.data]
theorem GoP.rowNew {w w1:World} {lo g pp b:Nat} {M:Array Value} {s:Nat×Nat} (h:GoP lo g pp M s w w1) (hz:g<w.heap.size∧pp<w.heap.size) (hb:w.heap.size≤b) (hlo:lo≤w.heap.size) (cs:Array Value):GoP lo g pp M s w (w1.setRow b cs):=by
 have gr:=zag w1 b cs
 refine⟨(gr.block g h.lt.1 (fun e=>by injection e with e;omega)).trans h.box,(gr.block pp h.lt.2 (fun e=>by injection e with e;omega)).trans h.prt,h.ne,⟨Nat.le_trans h.kept.1 gr.size,fun k hk h1 h2=>(gr.block k (Nat.lt_of_lt_of_le hk h.kept.1) (fun e=>by injection e with e;omega)).trans (h.kept.2 k hk h1 h2)⟩,?_⟩
 exact Below.grown h.below gr (Nat.le_trans hlo h.kept.1) (fun k hk=>by injection hk with hk;omega)
theorem GoP.boxes {w w1:World} {lo g pp:Nat} {M:Array Value} {s:Nat×Nat} (h:GoP lo g pp M s w w1):w1.cell? ⟨pp,0,none⟩=some (.int .i64 (s.1:Int))∧w1.cell? ⟨pp,1,none⟩=some (.int .i64 (s.2:Int))∧w1.frozen? ⟨pp,0,none⟩=false∧w1.frozen? ⟨pp,1,none⟩=false:=
 ⟨(zjg h.prt).1,(zjg h.prt).2.1,(zjg h.prt).2.2 0,(zjg h.prt).2.2 1⟩
theorem zlv {w:World} {g o n:Nat} {cs:Array Value} {t:TypeId} (h:w.heap[g]? =some (.cells cs t)) (hn:o+n≤cs.size):w.there g o n:=fun j hj=>by
 have hj2:o+j<cs.size:=by omega
 refine⟨?_,?_⟩
 ·simp[World.cell?,h,Array.getElem?_eq_getElem hj2]
 ·simp[World.frozen?,h]
theorem GoP.setEd {w w1:World} {lo g pp:Nat} {hd:HdD} {q a u x o0:Value} {he:Bool} {e0:EdD} {s:Nat×Nat} (h:GoP lo g pp (za4 hd q a u x he e0 o0) s w w1) (hlo:lo≤g) (e:EdD) (o:Value):GoP lo g pp (za4 hd q a u x he e o) s w (w1.setCells g 16 [.int .u16 e.size,.int .u8 e.ext,.int .u8 e.ver,.int .u16 e.flags,o]):=
 ((((h.setg 16 (.int .u16 e.size) hlo).setg 17 (.int .u8 e.ext) hlo).setg 18 (.int .u8 e.ver) hlo).setg 19 (.int .u16 e.flags) hlo).setg 20 o hlo
theorem zfw (w:World) (g k:Nat) (hk:k≠g) (v0 v1 v2 v3 v4:Value):(w.setCells g 16 [v0,v1,v2,v3,v4]).heap[k]? =w.heap[k]? :=by
 have h:=fun(w:World) (j:Nat) (v:Value)=>Below.heap_setCell w ⟨g,j,none⟩ v k hk
 exact(h _ 20 v4).trans ((h _ 19 v3).trans ((h _ 18 v2).trans ((h _ 17 v1).trans (h w 16 v0))))
def RecP (lo g pp p:Nat) (d:List UInt8) (h:HdD) (q a u x o:Value) (ed:Option EdD) (more:Bool) (w:World) (e:Ending) (w':World):Prop:=
 ∃(r:RecD) (b:Bool) (s:Nat×Nat) (he:Bool) (ed':EdD) (o':Value),e=.returned (.tuple #[.agg (rcC r),.bool b])∧GoP lo g pp (za4 h q a u x he ed' o') s w w'∧
  ((s.2≠0∧∃y,zbp d more ed p=.error y)∨
   (s.2=0∧s.1≤d.length∧((b=true∧zbp d more ed p=.ok (some r,ed,s.1)∧he=ed.isSome∧ed'=ed.getD za6∧o'=o)∨
    (b=false∧∃y,zbp d more ed p=.ok (none,some y,s.1)∧he=true∧ed'=y∧OptsT w' w.heap.size o' y.opts))))
theorem zop {v:Nat} (h:v<65536):IntKind.u16.wrap (v:Int)=(v:Int):=Int.emod_eq_of_lt (by omega) (by show _<(65536:Int);omega)
theorem zF3 {v:Nat} (h:v<4294967296):IntKind.u32.wrap (v:Int)=(v:Int):=Int.emod_eq_of_lt (by omega) (by show _<(4294967296:Int);omega)
theorem zxo {d:List UInt8} {more:Bool} {ed:Option EdD} {n:List UInt8} {ty cl tt sz p:Nat} (h:d.length<p+sz):zhq d more ed n ty cl tt sz p=.error 4:=if_pos h
theorem znp {d:List UInt8} {more:Bool} {ed:Option EdD} {n:List UInt8} {cl tt sz p:Nat} (h:¬d.length<p+sz) (h2:more=false∨ed.isSome=true∨n≠[0]):zhq d more ed n 41 cl tt sz p=.error 3:=by unfold zhq;rw[if_neg h,if_pos rfl,if_pos h2]
theorem zEa {d:List UInt8} {more:Bool} {ed:Option EdD} {n:List UInt8} {cl tt sz p:Nat} (h:¬d.length<p+sz) (h2:¬(more=false∨ed.isSome=true∨n≠[0])):zhq d more ed n 41 cl tt sz p=(match edR cl tt ((d.drop p).take sz)with| .error e=>.error e| .ok x=>.ok (none,some x,p+sz)):=by unfold zhq;rw[if_neg h,if_pos rfl,if_neg h2];try(cases edR cl tt ((d.drop p).take sz)<;>rfl)
theorem zCf {d:List UInt8} {more:Bool} {ed:Option EdD} {n:List UInt8} {ty cl tt sz p:Nat} (h:¬d.length<p+sz) (h1:ty≠41):zhq d more ed n ty cl tt sz p=(if(splitOf (d.take (p+sz)) p ty).2=0 then .ok (some ⟨n,ty,cl,tt,textOf (splitOf (d.take (p+sz)) p ty).1⟩,ed,p+sz)else .error (splitOf (d.take (p+sz)) p ty).2):=by unfold zhq;rw[if_neg h,if_neg h1]
theorem zj3 (lo g pp p sec:Nat) (d:List UInt8) (h:HdD) (q a u x o:Value) (ed:Option EdD) (w:World) (hbox:w.heap[g]? =some (.cells (za4 h q a u x ed.isSome (ed.getD za6) o) 45)) (hprt:w.heap[pp]? =some (.cells (zhl (p,0)) 195)) (hne:g≠pp) (hlg:lo≤g) (hlo:lo≤pp) (hp:p≤d.length) (hd:d.length≤65535):
 Calls Tryz.prog 109 #[.pointer (some ⟨pp,0,none⟩),S d,.pointer (some ⟨g,0,none⟩),.int .i64 (sec:Int)] w (RecP lo g pp p d h q a u x o ed (decide (sec=3)) w):=by
 have HC:=zEv d (decide (sec=3)) ed p
 have hO:=zEw hp
 obtain⟨n,s1,e1⟩:∃n s1,zci d (p,0)=(n,s1):=⟨_,_,rfl⟩
 obtain⟨ty,s2,e2⟩:∃v s,zcc 2 d s1=(v,s):=⟨_,_,rfl⟩
 obtain⟨cl,s3,e3⟩:∃v s,zcc 2 d s2=(v,s):=⟨_,_,rfl⟩
 obtain⟨tt,s4,e4⟩:∃v s,zcc 4 d s3=(v,s):=⟨_,_,rfl⟩
 obtain⟨sz,s5,e5⟩:∃v s,zcc 2 d s4=(v,s):=⟨_,_,rfl⟩
 have hR:rcS d (p,0)=⟨n,ty,cl,tt,sz,s5⟩:=by unfold rcS;simp only[e1,e2,e3,e4,e5]
 rw[hR]at HC hO;dsimp only at HC hO;have o1:okS d s1:=by have:=zlc (d:=d) (s:=(p,0)) (fun _=>hp);rw[e1]at this;exact this
 have o2:okS d s2:=by have:=zeh (k:=2) o1;rw[e2]at this;exact this
 have o3:okS d s3:=by have:=zeh (k:=2) o2;rw[e3]at this;exact this
 have o4:okS d s4:=by have:=zeh (k:=4) o3;rw[e4]at this;exact this
 have b1:ty<65536:=by have:=zhu 2 d s1 (by decide);rw[e2]at this;exact Nat.lt_of_lt_of_le this (by decide)
 have b2:cl<65536:=by have:=zhu 2 d s2 (by decide);rw[e3]at this;exact Nat.lt_of_lt_of_le this (by decide)
 have b3:tt<4294967296:=by have:=zhu 4 d s3 (by decide);rw[e4]at this;exact Nat.lt_of_lt_of_le this (by decide)
 have b4:sz<65536:=by have:=zhu 2 d s4 (by decide);rw[e5]at this;exact Nat.lt_of_lt_of_le this (by decide)
 have hd':d.length≤1048576:=by omega
 have C1:=Lib.hid (fun V hV=>zqi pp (p,0) d V hV hd' (fun _=>hp))
 have C2:=Lib.hid (fun V hV=>zet pp 2 s1 d V hV hd' (by decide) o1)
 have C3:=Lib.hid (fun V hV=>zet pp 2 s2 d V hV hd' (by decide) o2)
 have C4:=Lib.hid (fun V hV=>zet pp 4 s3 d V hV hd' (by decide) o3)
 have C5:=Lib.hid (fun V hV=>zet pp 2 s4 d V hV hd' (by decide) o4)
 rw[e1]at C1;rw[e2]at C2;rw[e3]at C3;rw[e4]at C4;rw[e5]at C5;dsimp only at C1 C2 C3 C4 C5;have w1:=zop b1
 have w2:=zop b2
 have w3:=zF3 b3
 have w4:IntKind.i64.wrap (sz:Int)=(sz:Int):=IntWalk.i64_in _ (by omega)
 clear hR e1 e2 e3 e4 e5 o1 o2 o3 o4;obtain⟨p5,er⟩:=s5
 have hzw:g<w.heap.size∧pp<w.heap.size:=⟨(Array.getElem?_eq_some_iff.1 hbox).1,(Array.getElem?_eq_some_iff.1 hprt).1⟩
 have hlw:lo≤w.heap.size:=by omega
 obtain⟨W1,hW1⟩:∃W,W=w.alloc (.cells #[.string ⟨#[]⟩,.int .u16 0,.int .u16 0,.int .u32 0,.string ⟨#[]⟩] 99):=⟨_,rfl⟩
 obtain⟨X,hX⟩:∃W,W=W1.alloc (.cells #[.string ⟨#[]⟩,.int .u16 0,.int .u16 0,.int .u32 0,.string ⟨#[]⟩] 99):=⟨_,rfl⟩
 obtain⟨b,hb⟩:∃b,b=w.heap.size:=⟨_,rfl⟩
 obtain⟨c,hc⟩:∃c,c=w.heap.size+1:=⟨_,rfl⟩
 have hcb:b<c:=by omega
 have t8:W1.heap[b]? =some (.cells #[.string ⟨#[]⟩,.int .u16 0,.int .u16 0,.int .u32 0,.string ⟨#[]⟩] 99):=by rw[hW1,hb];exact heap_alloc_new _ _
 have t10:X.heap[c]? =some (.cells #[.string ⟨#[]⟩,.int .u16 0,.int .u16 0,.int .u32 0,.string ⟨#[]⟩] 99):=by
  have h1:=heap_alloc_new W1 (.cells #[.string ⟨#[]⟩,.int .u16 0,.int .u16 0,.int .u32 0,.string ⟨#[]⟩] 99)
  rw[show W1.heap.size=c by rw[hW1,hc];simp,←hX]at h1
  exact h1
 have hEX:Ext W1 X:=by rw[hX];exact(Ext.refl _).alloc _
 have r8:=(hEX.block _ (Array.getElem?_eq_some_iff.1 t8).1).trans t8
 have hwX:Ext w X:=by rw[hX,hW1];exact((Ext.refl _).alloc _).alloc _
 have G:GoP lo g pp (za4 h q a u x ed.isSome (ed.getD za6) o) (p,0) w X:=(GoP.refl hbox hprt hne).ext hwX hlw
 have hbg:b≠g:=by omega
 have hbp:b≠pp:=by omega
 have hcg:c≠g:=by omega
 have hcp:c≠pp:=by omega
 have hwb:w.heap.size≤b:=by omega
 have hwc:w.heap.size≤c:=by omega
 go_enter Tryz.func109,Tryz.ntmps109;go_upto_region 2 with fail
 rw[←hW1,←hX,←hc,←hb];clear hX hW1 hc hb t8 hEX hwX hbox hprt;have r10:=t10
 clear t10;go_wp2_with fail;refine(C1.out _ G.prt).mono ?_;rintro e v1 ⟨rfl,hs⟩;have r8:=hs.kept.row r8 hbp hbp
 have r10:=hs.kept.row r10 hcp hcp
 have G:=G.st hs hlo
 clear hs;have cc:=za0 (j:=0) r10 rfl
 have fc:=zab (j:=0) r10
 go_upto_region 3 with fail
 have G:=G.setNew hzw hlo hwc 0 (S n)
 have r8:=(Below.heap_setCell v1 ⟨c,0,none⟩ (S n) b (by dsimp only;omega)).trans r8
 have r10:(v1.setCell ⟨c,0,none⟩ (S n)).heap[c]? =some (.cells #[S n,.int .u16 0,.int .u16 0,.int .u32 0,.string ⟨#[]⟩] 99):=za7 r10 0 _
 clear cc fc;obtain⟨V1,hV⟩:∃V,V=v1.setCell ⟨c,0,none⟩ (S n):=⟨_,rfl⟩
 rw[←hV]at G r8 r10 ⊢;clear hV;go_wp2_with fail;refine(C2.out _ G.prt).mono ?_;rintro e v2 ⟨rfl,hs⟩;have r8:=hs.kept.row r8 hbp hbp
 have r10:=hs.kept.row r10 hcp hcp
 have G:=G.st hs hlo
 clear hs;have cc:=za0 (j:=1) r10 rfl
 have fc:=zab (j:=1) r10
 go_upto_region 4 with fail
 have G:=G.setNew hzw hlo hwc 1 (.int .u16 (ty:Int))
 have r8:=(Below.heap_setCell v2 ⟨c,1,none⟩ (.int .u16 (ty:Int)) b (by dsimp only;omega)).trans r8
 have r10:(v2.setCell ⟨c,1,none⟩ (.int .u16 (ty:Int))).heap[c]? =some (.cells #[S n,.int .u16 (ty:Int),.int .u16 0,.int .u32 0,.string ⟨#[]⟩] 99):=za7 r10 1 _
 clear cc fc;obtain⟨V2,hV⟩:∃V,V=v2.setCell ⟨c,1,none⟩ (.int .u16 (ty:Int)):=⟨_,rfl⟩
 rw[←hV]at G r8 r10 ⊢;clear hV;go_wp2_with fail;refine(C3.out _ G.prt).mono ?_;rintro e v3 ⟨rfl,hs⟩;have r8:=hs.kept.row r8 hbp hbp
 have r10:=hs.kept.row r10 hcp hcp
 have G:=G.st hs hlo
 clear hs;have cc:=za0 (j:=2) r10 rfl
 have fc:=zab (j:=2) r10
 go_upto_region 5 with fail
 have G:=G.setNew hzw hlo hwc 2 (.int .u16 (cl:Int))
 have r8:=(Below.heap_setCell v3 ⟨c,2,none⟩ (.int .u16 (cl:Int)) b (by dsimp only;omega)).trans r8
 have r10:(v3.setCell ⟨c,2,none⟩ (.int .u16 (cl:Int))).heap[c]? =some (.cells #[S n,.int .u16 (ty:Int),.int .u16 (cl:Int),.int .u32 0,.string ⟨#[]⟩] 99):=za7 r10 2 _
 clear cc fc;obtain⟨V3,hV⟩:∃V,V=v3.setCell ⟨c,2,none⟩ (.int .u16 (cl:Int)):=⟨_,rfl⟩
 rw[←hV]at G r8 r10 ⊢;clear hV;go_wp2_with fail;refine(C4.out _ G.prt).mono ?_;rintro e v4 ⟨rfl,hs⟩;have r8:=hs.kept.row r8 hbp hbp
 have r10:=hs.kept.row r10 hcp hcp
 have G:=G.st hs hlo
 clear hs;have cc:=za0 (j:=3) r10 rfl
 have fc:=zab (j:=3) r10
 go_upto_region 6 with fail
 have G:=G.setNew hzw hlo hwc 3 (.int .u32 (tt:Int))
 have r8:=(Below.heap_setCell v4 ⟨c,3,none⟩ (.int .u32 (tt:Int)) b (by dsimp only;omega)).trans r8
 have r10:(v4.setCell ⟨c,3,none⟩ (.int .u32 (tt:Int))).heap[c]? =some (.cells #[S n,.int .u16 (ty:Int),.int .u16 (cl:Int),.int .u32 (tt:Int),.string ⟨#[]⟩] 99):=za7 r10 3 _
 clear cc fc;obtain⟨V4,hV⟩:∃V,V=v4.setCell ⟨c,3,none⟩ (.int .u32 (tt:Int)):=⟨_,rfl⟩
 rw[←hV]at G r8 r10 ⊢;clear hV;go_wp2_with fail;refine(C5.out _ G.prt).mono ?_;rintro e V5 ⟨rfl,hs⟩;have r8:=hs.kept.row r8 hbp hbp
 have r10:=hs.kept.row r10 hcp hcp
 have G:=G.st hs hlo
 clear hs C1 C2 C3 C4 C5;obtain⟨c0,c1,f0,f1⟩:=G.boxes
 dsimp only at c0 c1;have hsz5:V5.heap.size≥w.heap.size:=G.kept.1
 by_cases her:er=0
 rotate_left
 ·have hbad:∃y,zbp d (decide (sec=3)) ed p=.error y:=by
   rcases HC with⟨h0,_⟩|⟨_,h0⟩
   ·exact absurd h0 her
   ·exact h0
  have f2:((er:Int)==0)=false:=zbq her
  have f3:((er:Int)!=0)=true:=by rw[bne,f2];rfl
  have Her:=Lib.hid her
  have HB:=Lib.hid hbad
  clear her hbad HC hO;go_upto_region 10 with fail
  refine wp_region_lit ?_
  repeat(first
   |(refine zaf (by rfl) 99 (.tmp 10) rfl c rfl _ (#[S n,.int .u16 (ty:Int),.int .u16 (cl:Int),.int .u32 (tt:Int),.string ⟨#[]⟩]) _ _ r10 Tryz.underlying99 rfl (by kernel_rfl) ?_)
   |(refine Go.wpList_store_rowTo rfl 99 (.tmp 8) (.tmp 60) rfl rfl b (#[S n,.int .u16 (ty:Int),.int .u16 (cl:Int),.int .u32 (tt:Int),.string ⟨#[]⟩]) rfl rfl 99 _ r8 (by kernel_rfl) rfl (by kernel_rfl) ?_)
   |go_step)
  (try simp only[Exit.inBlock,Exit.then])
  refine bodyPost_ret (zau rfl _ _ b _ _ _ _ rfl (setRow_heap V5 b _ _ _ _ r8) Tryz.underlying99 rfl (by kernel_rfl)) rfl ?_
  have G:=G.rowNew hzw hwb hlw (#[S n,.int .u16 (ty:Int),.int .u16 (cl:Int),.int .u32 (tt:Int),.string ⟨#[]⟩])
  exact⟨⟨n,ty,cl,tt,[]⟩,false,(p5,er),_,_,_,rfl,G,.inl ⟨Her.out,HB.out⟩⟩
 subst her;have hrec:zbp d (decide (sec=3)) ed p=zhq d (decide (sec=3)) ed n ty cl tt sz p5:=by
  rcases HC with⟨_,h0⟩|⟨h0,_⟩
  ·exact h0
  ·exact absurd rfl h0
 have hp5:p5≤d.length:=hO rfl
 have HR:=Lib.hid hrec
 clear HC hO hrec;have hsub:IntKind.i64.wrap ((d.length:Int) - (p5:Int))=(d.length:Int) - (p5:Int):=IntWalk.i64_in _ (by omega)
 by_cases hsh:d.length<p5+sz
 ·have HT:=Lib.hid (HR.out.trans (zxo hsh))
  have hlt:(d.length:Int) - (p5:Int)<(sz:Int):=by omega
  clear hsh HR;go_upto_region 9 with fail
  have G:=G.set1 (m:=4) (k:=4) rfl hlo
  have r8:=(Below.heap_setCell V5 ⟨pp,1,none⟩ (.int .i64 4) b (by dsimp only;omega)).trans r8
  have r10:=(Below.heap_setCell V5 ⟨pp,1,none⟩ (.int .i64 4) c (by dsimp only;omega)).trans r10
  clear c0 c1 f0 f1;obtain⟨V6,hV⟩:∃V,V=V5.setCell ⟨pp,1,none⟩ (.int .i64 4):=⟨_,rfl⟩
  rw[←hV]at G r8 r10 ⊢;clear hV;obtain⟨c0,c1,f0,f1⟩:=G.boxes
  dsimp only at c0 c1;go_upto_region 10 with fail
  refine wp_region_lit ?_
  repeat(first
   |(refine zaf (by rfl) 99 (.tmp 10) rfl c rfl _ (#[S n,.int .u16 (ty:Int),.int .u16 (cl:Int),.int .u32 (tt:Int),.string ⟨#[]⟩]) _ _ r10 Tryz.underlying99 rfl (by kernel_rfl) ?_)
   |(refine Go.wpList_store_rowTo rfl 99 (.tmp 8) (.tmp 60) rfl rfl b (#[S n,.int .u16 (ty:Int),.int .u16 (cl:Int),.int .u32 (tt:Int),.string ⟨#[]⟩]) rfl rfl 99 _ r8 (by kernel_rfl) rfl (by kernel_rfl) ?_)
   |go_step)
  (try simp only[Exit.inBlock,Exit.then])
  refine bodyPost_ret (zau rfl _ _ b _ _ _ _ rfl (setRow_heap V6 b _ _ _ _ r8) Tryz.underlying99 rfl (by kernel_rfl)) rfl ?_
  have G:=G.rowNew hzw hwb hlw (#[S n,.int .u16 (ty:Int),.int .u16 (cl:Int),.int .u32 (tt:Int),.string ⟨#[]⟩])
  exact⟨⟨n,ty,cl,tt,[]⟩,false,(p5,4),_,_,_,rfl,G,.inl ⟨zcr,4,HT.out⟩⟩
 have hlt:¬(d.length:Int) - (p5:Int)<(sz:Int):=by omega
 have hps:IntKind.i64.wrap ((p5:Int)+(sz:Int))=(p5:Int)+(sz:Int):=IntWalk.i64_in _ (by omega)
 go_upto_region 13 with fail
 have G:=G.set0 (m:=(p5:Int)+(sz:Int)) (k:=p5+sz) (by omega) hlo
 have r8:=(Below.heap_setCell V5 ⟨pp,0,none⟩ (.int .i64 ((p5:Int)+(sz:Int))) b (by dsimp only;omega)).trans r8
 have r10:=(Below.heap_setCell V5 ⟨pp,0,none⟩ (.int .i64 ((p5:Int)+(sz:Int))) c (by dsimp only;omega)).trans r10
 clear c0 c1 f0 f1;obtain⟨V6,hV⟩:∃V,V=V5.setCell ⟨pp,0,none⟩ (.int .i64 ((p5:Int)+(sz:Int))):=⟨_,rfl⟩
 rw[←hV]at G r8 r10 ⊢;clear hV;obtain⟨c0,c1,f0,f1⟩:=G.boxes
 dsimp only at c0 c1;have k1:=za0 (j:=1) r10 rfl
 by_cases h41:ty=41
 rotate_left
 ·have f41:((ty:Int)==41)=false:=by rw[beq_eq_false_iff_ne];omega
  have HT:=Lib.hid (HR.out.trans (zCf hsh h41))
  have H5:=Lib.hid (fun V=>zzm d p5 sz (ty:Int) V hd' (by omega))
  generalize splitOf (d.take (p5+sz)) p5 (ty:Int)=SP at*;obtain⟨sl,se⟩:=SP
  dsimp only at HT;have hple:p5+sz≤d.length:=by omega
  clear h41 HR;go_wp2_with fail;refine(H5.out _).mono ?_;rintro e V7 ⟨(⟨hz,rfl⟩|⟨hz,k,hk,rfl⟩),hE7⟩
  ·have r8:=(hE7.block _ (Array.getElem?_eq_some_iff.1 r8).1).trans r8
   have r10:=(hE7.block _ (Array.getElem?_eq_some_iff.1 r10).1).trans r10
   have G:=G.ext hE7 hlw
   clear c0 c1 f0 f1 k1;obtain⟨c0,c1,f0,f1⟩:=G.boxes
   dsimp only at c0 c1 hz;have cc:=za0 (j:=4) r10 rfl
   have fc:=zab (j:=4) r10
   have HT2:=Lib.hid (HT.out.trans (if_pos hz))
   clear hz HT;go_upto_region 21 with fail
   have G:=(G.setNew hzw hlo hwc 4 (S (textOf sl))).set1 (m:=0) (k:=0) rfl hlo
   have r8:=(Below.heap_setCell _ ⟨pp,1,none⟩ (.int .i64 0) b (by dsimp only;omega)).trans ((Below.heap_setCell V7 ⟨c,4,none⟩ (S (textOf sl)) b (by dsimp only;omega)).trans r8)
   have r10:((V7.setCell ⟨c,4,none⟩ (S (textOf sl))).setCell ⟨pp,1,none⟩ (.int .i64 0)).heap[c]? =some (.cells #[S n,.int .u16 (ty:Int),.int .u16 (cl:Int),.int .u32 (tt:Int),S (textOf sl)] 99):=(Below.heap_setCell _ ⟨pp,1,none⟩ (.int .i64 0) c (by dsimp only;omega)).trans (za7 r10 4 _)
   clear c0 c1 f0 f1 cc fc;obtain⟨V8,hV⟩:∃V,V=(V7.setCell ⟨c,4,none⟩ (S (textOf sl))).setCell ⟨pp,1,none⟩ (.int .i64 0):=⟨_,rfl⟩
   rw[←hV]at G r8 r10 ⊢;clear hV;go_upto_region 21 with fail
   refine wp_region_lit ?_
   repeat(first
    |(refine zaf (by rfl) 99 (.tmp 10) rfl c rfl _ (#[S n,.int .u16 (ty:Int),.int .u16 (cl:Int),.int .u32 (tt:Int),S (textOf sl)]) _ _ r10 Tryz.underlying99 rfl (by kernel_rfl) ?_)
    |(refine Go.wpList_store_rowTo rfl 99 (.tmp 8) (.tmp 128) rfl rfl b (#[S n,.int .u16 (ty:Int),.int .u16 (cl:Int),.int .u32 (tt:Int),S (textOf sl)]) rfl rfl 99 _ r8 (by kernel_rfl) rfl (by kernel_rfl) ?_)
    |go_step)
   (try simp only[Exit.inBlock,Exit.then])
   refine bodyPost_ret (zau rfl _ _ b _ _ _ _ rfl (setRow_heap V8 b _ _ _ _ r8) Tryz.underlying99 rfl (by kernel_rfl)) rfl ?_
   have G:=G.rowNew hzw hwb hlw (#[S n,.int .u16 (ty:Int),.int .u16 (cl:Int),.int .u32 (tt:Int),S (textOf sl)])
   exact⟨⟨n,ty,cl,tt,textOf sl⟩,true,(p5+sz,0),_,_,_,rfl,G,.inr ⟨rfl,hple,.inl ⟨rfl,HT2.out,rfl,rfl,rfl⟩⟩⟩
  ·have r8:=(hE7.block _ (Array.getElem?_eq_some_iff.1 r8).1).trans r8
   have r10:=(hE7.block _ (Array.getElem?_eq_some_iff.1 r10).1).trans r10
   have G:=G.ext hE7 hlw
   clear c0 c1 f0 f1 k1;obtain⟨c0,c1,f0,f1⟩:=G.boxes
   dsimp only at c0 c1 hz;have cc:=za0 (j:=4) r10 rfl
   have fc:=zab (j:=4) r10
   have HT2:=Lib.hid (HT.out.trans (if_neg hz))
   have Hk:=Lib.hid hk
   clear hz HT hk;go_upto_region 21 with fail
   have G:=(G.setNew hzw hlo hwc 4 (S [])).set1 (m:=(k:Int)) (k:=k) rfl hlo
   have r8:=(Below.heap_setCell _ ⟨pp,1,none⟩ (.int .i64 (k:Int)) b (by dsimp only;omega)).trans ((Below.heap_setCell V7 ⟨c,4,none⟩ (S []) b (by dsimp only;omega)).trans r8)
   have r10:((V7.setCell ⟨c,4,none⟩ (S [])).setCell ⟨pp,1,none⟩ (.int .i64 (k:Int))).heap[c]? =some (.cells #[S n,.int .u16 (ty:Int),.int .u16 (cl:Int),.int .u32 (tt:Int),S []] 99):=(Below.heap_setCell _ ⟨pp,1,none⟩ (.int .i64 (k:Int)) c (by dsimp only;omega)).trans (za7 r10 4 _)
   clear c0 c1 f0 f1 cc fc;obtain⟨V8,hV⟩:∃V,V=(V7.setCell ⟨c,4,none⟩ (S [])).setCell ⟨pp,1,none⟩ (.int .i64 (k:Int)):=⟨_,rfl⟩
   rw[←hV]at G r8 r10 ⊢;clear hV;go_upto_region 21 with fail
   refine wp_region_lit ?_
   repeat(first
    |(refine zaf (by rfl) 99 (.tmp 10) rfl c rfl _ (#[S n,.int .u16 (ty:Int),.int .u16 (cl:Int),.int .u32 (tt:Int),S []]) _ _ r10 Tryz.underlying99 rfl (by kernel_rfl) ?_)
    |(refine Go.wpList_store_rowTo rfl 99 (.tmp 8) (.tmp 128) rfl rfl b (#[S n,.int .u16 (ty:Int),.int .u16 (cl:Int),.int .u32 (tt:Int),S []]) rfl rfl 99 _ r8 (by kernel_rfl) rfl (by kernel_rfl) ?_)
    |go_step)
   (try simp only[Exit.inBlock,Exit.then])
   refine bodyPost_ret (zau rfl _ _ b _ _ _ _ rfl (setRow_heap V8 b _ _ _ _ r8) Tryz.underlying99 rfl (by kernel_rfl)) rfl ?_
   have G:=G.rowNew hzw hwb hlw (#[S n,.int .u16 (ty:Int),.int .u16 (cl:Int),.int .u32 (tt:Int),S []])
   exact⟨⟨n,ty,cl,tt,[]⟩,true,(p5+sz,k),_,_,_,rfl,G,.inl ⟨Hk.out,_,HT2.out⟩⟩
 subst h41;have hple:p5+sz≤d.length:=by omega
 have k0:=za0 (j:=0) r10 rfl
 have k2:=za0 (j:=2) r10 rfl
 have k3:=za0 (j:=3) r10 rfl
 have m15:=za0 (j:=15) G.box rfl
 have n15:=zab (j:=15) G.box
 by_cases hsec:sec=3
 rotate_left
 ·have fs:((sec:Int)!=3)=true:=by rw[bne_iff_ne];omega
  have HT:=Lib.hid (HR.out.trans (znp hsh (.inl (decide_eq_false hsec))))
  go_upto_region 16 with fail
  have G:=G.set1 (m:=3) (k:=3) rfl hlo
  have r8:=(Below.heap_setCell V6 ⟨pp,1,none⟩ (.int .i64 3) b (by dsimp only;omega)).trans r8
  have r10:=(Below.heap_setCell V6 ⟨pp,1,none⟩ (.int .i64 3) c (by dsimp only;omega)).trans r10
  clear c0 c1 f0 f1 k0 k1 k2 k3 m15 n15;obtain⟨V7,hV⟩:∃V,V=V6.setCell ⟨pp,1,none⟩ (.int .i64 3):=⟨_,rfl⟩
  rw[←hV]at G r8 r10 ⊢;clear hV;go_upto_region 16 with fail
  refine wp_region_lit ?_
  repeat(first
   |(refine zaf (by rfl) 99 (.tmp 10) rfl c rfl _ (#[S n,.int .u16 (41:Int),.int .u16 (cl:Int),.int .u32 (tt:Int),.string ⟨#[]⟩]) _ _ r10 Tryz.underlying99 rfl (by kernel_rfl) ?_)
   |(refine Go.wpList_store_rowTo rfl 99 (.tmp 8) (.tmp 90) rfl rfl b (#[S n,.int .u16 (41:Int),.int .u16 (cl:Int),.int .u32 (tt:Int),.string ⟨#[]⟩]) rfl rfl 99 _ r8 (by kernel_rfl) rfl (by kernel_rfl) ?_)
   |go_step)
  (try simp only[Exit.inBlock,Exit.then])
  refine bodyPost_ret (zau rfl _ _ b _ _ _ _ rfl (setRow_heap V7 b _ _ _ _ r8) Tryz.underlying99 rfl (by kernel_rfl)) rfl ?_
  have G:=G.rowNew hzw hwb hlw (#[S n,.int .u16 (41:Int),.int .u16 (cl:Int),.int .u32 (tt:Int),.string ⟨#[]⟩])
  exact⟨⟨n,41,cl,tt,[]⟩,false,(p5+sz,3),_,_,_,rfl,G,.inl ⟨(by show(3:Nat)≠0;decide),3,HT.out⟩⟩
 subst hsec;rcases ed with _|y0
 rotate_left
 ·dsimp only[Option.isSome]at m15;have HT:=Lib.hid (HR.out.trans (znp hsh (.inr (.inl rfl))))
  go_upto_region 16 with fail
  have G:=G.set1 (m:=3) (k:=3) rfl hlo
  have r8:=(Below.heap_setCell V6 ⟨pp,1,none⟩ (.int .i64 3) b (by dsimp only;omega)).trans r8
  have r10:=(Below.heap_setCell V6 ⟨pp,1,none⟩ (.int .i64 3) c (by dsimp only;omega)).trans r10
  clear c0 c1 f0 f1 k0 k1 k2 k3 m15 n15;obtain⟨V7,hV⟩:∃V,V=V6.setCell ⟨pp,1,none⟩ (.int .i64 3):=⟨_,rfl⟩
  rw[←hV]at G r8 r10 ⊢;clear hV;go_upto_region 16 with fail
  refine wp_region_lit ?_
  repeat(first
   |(refine zaf (by rfl) 99 (.tmp 10) rfl c rfl _ (#[S n,.int .u16 (41:Int),.int .u16 (cl:Int),.int .u32 (tt:Int),.string ⟨#[]⟩]) _ _ r10 Tryz.underlying99 rfl (by kernel_rfl) ?_)
   |(refine Go.wpList_store_rowTo rfl 99 (.tmp 8) (.tmp 90) rfl rfl b (#[S n,.int .u16 (41:Int),.int .u16 (cl:Int),.int .u32 (tt:Int),.string ⟨#[]⟩]) rfl rfl 99 _ r8 (by kernel_rfl) rfl (by kernel_rfl) ?_)
   |go_step)
  (try simp only[Exit.inBlock,Exit.then])
  refine bodyPost_ret (zau rfl _ _ b _ _ _ _ rfl (setRow_heap V7 b _ _ _ _ r8) Tryz.underlying99 rfl (by kernel_rfl)) rfl ?_
  have G:=G.rowNew hzw hwb hlw (#[S n,.int .u16 (41:Int),.int .u16 (cl:Int),.int .u32 (tt:Int),.string ⟨#[]⟩])
  exact⟨⟨n,41,cl,tt,[]⟩,false,(p5+sz,3),_,_,_,rfl,G,.inl ⟨(by show(3:Nat)≠0;decide),3,HT.out⟩⟩
 by_cases hnm:n=[0]
 rotate_left
 ·have fn:=zls hnm
  have HT:=Lib.hid (HR.out.trans (znp hsh (.inr (.inr hnm))))
  go_upto_region 16 with fail
  have G:=G.set1 (m:=3) (k:=3) rfl hlo
  have r8:=(Below.heap_setCell V6 ⟨pp,1,none⟩ (.int .i64 3) b (by dsimp only;omega)).trans r8
  have r10:=(Below.heap_setCell V6 ⟨pp,1,none⟩ (.int .i64 3) c (by dsimp only;omega)).trans r10
  clear c0 c1 f0 f1 k0 k1 k2 k3 m15 n15;obtain⟨V7,hV⟩:∃V,V=V6.setCell ⟨pp,1,none⟩ (.int .i64 3):=⟨_,rfl⟩
  rw[←hV]at G r8 r10 ⊢;clear hV;go_upto_region 16 with fail
  refine wp_region_lit ?_
  repeat(first
   |(refine zaf (by rfl) 99 (.tmp 10) rfl c rfl _ (#[S n,.int .u16 (41:Int),.int .u16 (cl:Int),.int .u32 (tt:Int),.string ⟨#[]⟩]) _ _ r10 Tryz.underlying99 rfl (by kernel_rfl) ?_)
   |(refine Go.wpList_store_rowTo rfl 99 (.tmp 8) (.tmp 90) rfl rfl b (#[S n,.int .u16 (41:Int),.int .u16 (cl:Int),.int .u32 (tt:Int),.string ⟨#[]⟩]) rfl rfl 99 _ r8 (by kernel_rfl) rfl (by kernel_rfl) ?_)
   |go_step)
  (try simp only[Exit.inBlock,Exit.then])
  refine bodyPost_ret (zau rfl _ _ b _ _ _ _ rfl (setRow_heap V7 b _ _ _ _ r8) Tryz.underlying99 rfl (by kernel_rfl)) rfl ?_
  have G:=G.rowNew hzw hwb hlw (#[S n,.int .u16 (41:Int),.int .u16 (cl:Int),.int .u32 (tt:Int),.string ⟨#[]⟩])
  exact⟨⟨n,41,cl,tt,[]⟩,false,(p5+sz,3),_,_,_,rfl,G,.inl ⟨(by show(3:Nat)≠0;decide),3,HT.out⟩⟩
 subst hnm;have HT:=Lib.hid (HR.out.trans (zEa hsh (by simp)))
 clear HR;have hlz:((d.drop p5).take sz).length≤1048576:=by rw[List.length_take,List.length_drop];omega
 have H6:=Lib.hid (fun V=>zzn cl tt ((d.drop p5).take sz) V hlz (by omega) (by omega))
 have q1:((p5:Int)+(sz:Int)).toNat=p5+sz:=by omega
 have q2:(0:Int)≤(p5:Int):=by omega
 have q3:(p5:Int)≤(p5:Int)+(sz:Int):=by omega
 have q4:(p5:Int)+(sz:Int)≤(d.length:Int):=by omega
 dsimp only[Option.isSome,Option.getD]at m15;go_upto_region 18 with fail
 have G:GoP lo g pp (za4 h q a u x true za6 o) (p5+sz,0) w (V6.setCell ⟨g,15,none⟩ (.bool true)):=G.setg 15 (.bool true) hlg
 have r8:=(Below.heap_setCell V6 ⟨g,15,none⟩ (.bool true) b (by dsimp only;omega)).trans r8
 have r10:=(Below.heap_setCell V6 ⟨g,15,none⟩ (.bool true) c (by dsimp only;omega)).trans r10
 clear c0 c1 f0 f1 k0 k1 k2 k3 m15 n15;obtain⟨V7,hV⟩:∃V,V=V6.setCell ⟨g,15,none⟩ (.bool true):=⟨_,rfl⟩
 rw[←hV]at G r8 r10 ⊢;clear hV;have k2:=za0 (j:=2) r10 rfl
 have k3:=za0 (j:=3) r10 rfl
 refine wp_region_noPanic ?_;refine zac (S:=fun V=>V.cell? ⟨c,2,none⟩=some (.int .u16 (cl:Int))∧V.cell? ⟨c,3,none⟩=some (.int .u32 (tt:Int))) (.take 0 (.take 1 (.take 2 (.take 3 (.take 4 (.take 5 (.take 6 (.take 7 (.take 8 (.take 9 (.take 10 (.take 11 (.run 12 (.take 13 (.take 14 (.take 15 (.take 16 (.take 17 (.run 18 (.take 19 (.take 20 (.run 21 (.done))))))))))))))))))))))) (by kernel_rfl) (by kernel_rfl) (fun _ _ _ _ _ h=>h) ⟨k2,k3⟩ ?_
 repeat((with_reducible refine za9 ?_);first
  |(refine za2 (v:=?_) (by rfl) (by rfl) ?_ ?_;rotate_left;(focus(intro V hV;obtain⟨hV0,hV1⟩:=hV;(go_simp<;>with_reducible rfl)));(try simp only[ap])))
 refine za3 (by rfl) (fun K hK=>?_)
 go_simp;refine(H6.out _).mono ?_;rintro e V8 ⟨(⟨k,hk,rfl⟩|⟨y,ov,hy,rfl,hop⟩),hE8'⟩
 ·have hz7:=G.lt
  have hE8:Ext V7 V8:=Ext.trans ((Ext.refl V7).drew) hE8'
  have hs78:=hE8.size
  have hzb:=(Array.getElem?_eq_some_iff.1 r8).1
  have hzc:=(Array.getElem?_eq_some_iff.1 r10).1
  have r8:=(hE8.block _ hzb).trans r8
  have r10:=(hE8.block _ hzc).trans r10
  have G:=G.ext hE8 hlw
  have gz:=G.lt
  refine hK.out _ _ ⟨za0 (j:=2) r10 rfl,za0 (j:=3) r10 rfl⟩ ?_
  clear hK K k2 k3
  (try simp only[ap])
  repeat((with_reducible refine za9 ?_);first
   |(refine za2 (v:=?_) (by rfl) (by rfl) ?_ ?_;rotate_left;(focus(intro V hV;obtain⟨hV0,hV1⟩:=hV;(go_simp<;>with_reducible rfl)));(try simp only[ap])))
  refine za3 (by rfl) (fun K hK=>?_)
  rw[if_pos (by rfl)]
  refine wp_store_mid 43 (.tmp 111) (.tmp 108) rfl g 16 #[.int .u16 za6.size,.int .u8 za6.ext,.int .u8 za6.ver,.int .u16 za6.flags,(.slice none 0 0)] rfl rfl (zlv G.box (Nat.le_refl 21)) (by kernel_rfl) (by kernel_rfl) ?_
  have G:=G.setEd hlg za6 (.slice none 0 0)
  have r8:=(zfw V8 g b hbg (.int .u16 za6.size) (.int .u8 za6.ext) (.int .u8 za6.ver) (.int .u16 za6.flags) (.slice none 0 0)).trans r8
  have r10:=(zfw V8 g c hcg (.int .u16 za6.size) (.int .u8 za6.ext) (.int .u8 za6.ver) (.int .u16 za6.flags) (.slice none 0 0)).trans r10
  have hoth:=fun j (hj:j≠g)=>zfw V8 g j hj (.int .u16 za6.size) (.int .u8 za6.ext) (.int .u8 za6.ver) (.int .u16 za6.flags) (.slice none 0 0)
  refine hK.out _ _ ⟨za0 (j:=2) r10 rfl,za0 (j:=3) r10 rfl⟩ ?_
  clear hK K
  (try simp only[ap])
  obtain⟨V9,hV⟩:∃V,V=V8.setCells g 16 [.int .u16 za6.size,.int .u8 za6.ext,.int .u8 za6.ver,.int .u16 za6.flags,(.slice none 0 0)]:=⟨_,rfl⟩
  rw[←hV]at G r8 r10 hoth ⊢;clear hV;obtain⟨c0,c1,f0,f1⟩:=G.boxes
  dsimp only at c0 c1
  repeat((with_reducible refine za9 ?_);first
   |(refine za2 (v:=?_) (by rfl) (by rfl) ?_ ?_;rotate_left;(focus(intro V hV;obtain⟨hV0,hV1⟩:=hV;(go_simp<;>with_reducible rfl)));(try simp only[ap])))
  refine za3 (by rfl) (fun K hK=>?_)
  go_simp;have G:=G.set1 (m:=(k:Int)) (k:=k) rfl hlo
  have r8:=(Below.heap_setCell V9 ⟨pp,1,none⟩ (.int .i64 (k:Int)) b (by dsimp only;omega)).trans r8
  have r10:=(Below.heap_setCell V9 ⟨pp,1,none⟩ (.int .i64 (k:Int)) c (by dsimp only;omega)).trans r10
  refine hK.out _ _ ⟨za0 (j:=2) r10 rfl,za0 (j:=3) r10 rfl⟩ ?_
  clear hK K c0 c1 f0 f1;have hoth2:=fun j (hj:j≠g) (hj2:j≠pp)=>(Below.heap_setCell V9 ⟨pp,1,none⟩ (.int .i64 (k:Int)) j hj2).trans (hoth j hj)
  clear hoth;obtain⟨V10,hV⟩:∃V,V=V9.setCell ⟨pp,1,none⟩ (.int .i64 (k:Int)):=⟨_,rfl⟩
  rw[←hV]at G r8 r10 hoth2 ⊢;clear hV
  (try simp only[ap])
  refine zar ?_;refine NoPanic.normal ?_;go_upto_region 19 with fail
  refine wp_region_lit ?_
  repeat(first
   |(refine zaf (by rfl) 99 (.tmp 10) rfl c rfl _ (#[S [0],.int .u16 (41:Int),.int .u16 (cl:Int),.int .u32 (tt:Int),.string ⟨#[]⟩]) _ _ r10 Tryz.underlying99 rfl (by kernel_rfl) ?_)
   |(refine Go.wpList_store_rowTo rfl 99 (.tmp 8) (.tmp 114) rfl rfl b (#[S [0],.int .u16 (41:Int),.int .u16 (cl:Int),.int .u32 (tt:Int),.string ⟨#[]⟩]) rfl rfl 99 _ r8 (by kernel_rfl) rfl (by kernel_rfl) ?_)
   |go_step)
  (try simp only[Exit.inBlock,Exit.then])
  refine bodyPost_ret (zau rfl _ _ b _ _ _ _ rfl (setRow_heap V10 b _ _ _ _ r8) Tryz.underlying99 rfl (by kernel_rfl)) rfl ?_
  have G:=G.rowNew hzw hwb hlw (#[S [0],.int .u16 (41:Int),.int .u16 (cl:Int),.int .u32 (tt:Int),.string ⟨#[]⟩])
  exact⟨⟨[0],41,cl,tt,[]⟩,false,(p5+sz,k),_,_,_,rfl,G,.inl ⟨by show k≠0;rw[zv3 hk];decide,k,HT.out.trans (by rw[hk])⟩⟩
 ·have hz7:=G.lt
  have hwV7:=G.kept.1
  have hop1:=hop
  obtain⟨oA,oc,rfl,_⟩:=hop1
  have hE8:Ext V7 V8:=Ext.trans ((Ext.refl V7).drew) hE8'
  have hs78:=hE8.size
  have hzb:=(Array.getElem?_eq_some_iff.1 r8).1
  have hzc:=(Array.getElem?_eq_some_iff.1 r10).1
  have r8:=(hE8.block _ hzb).trans r8
  have r10:=(hE8.block _ hzc).trans r10
  have G:=G.ext hE8 hlw
  have gz:=G.lt
  refine hK.out _ _ ⟨za0 (j:=2) r10 rfl,za0 (j:=3) r10 rfl⟩ ?_
  clear hK K k2 k3
  (try simp only[ap])
  repeat((with_reducible refine za9 ?_);first
   |(refine za2 (v:=?_) (by rfl) (by rfl) ?_ ?_;rotate_left;(focus(intro V hV;obtain⟨hV0,hV1⟩:=hV;(go_simp<;>with_reducible rfl)));(try simp only[ap])))
  refine za3 (by rfl) (fun K hK=>?_)
  rw[if_pos (by rfl)]
  refine wp_store_mid 43 (.tmp 111) (.tmp 108) rfl g 16 #[.int .u16 y.size,.int .u8 y.ext,.int .u8 y.ver,.int .u16 y.flags,(.slice oA y.opts.length oc)] rfl rfl (zlv G.box (Nat.le_refl 21)) (by kernel_rfl) (by kernel_rfl) ?_
  have G:=G.setEd hlg y (.slice oA y.opts.length oc)
  have r8:=(zfw V8 g b hbg (.int .u16 y.size) (.int .u8 y.ext) (.int .u8 y.ver) (.int .u16 y.flags) (.slice oA y.opts.length oc)).trans r8
  have r10:=(zfw V8 g c hcg (.int .u16 y.size) (.int .u8 y.ext) (.int .u8 y.ver) (.int .u16 y.flags) (.slice oA y.opts.length oc)).trans r10
  have hoth:=fun j (hj:j≠g)=>zfw V8 g j hj (.int .u16 y.size) (.int .u8 y.ext) (.int .u8 y.ver) (.int .u16 y.flags) (.slice oA y.opts.length oc)
  refine hK.out _ _ ⟨za0 (j:=2) r10 rfl,za0 (j:=3) r10 rfl⟩ ?_
  clear hK K
  (try simp only[ap])
  obtain⟨V9,hV⟩:∃V,V=V8.setCells g 16 [.int .u16 y.size,.int .u8 y.ext,.int .u8 y.ver,.int .u16 y.flags,(.slice oA y.opts.length oc)]:=⟨_,rfl⟩
  rw[←hV]at G r8 r10 hoth ⊢;clear hV;obtain⟨c0,c1,f0,f1⟩:=G.boxes
  dsimp only at c0 c1
  repeat((with_reducible refine za9 ?_);first
   |(refine za2 (v:=?_) (by rfl) (by rfl) ?_ ?_;rotate_left;(focus(intro V hV;obtain⟨hV0,hV1⟩:=hV;(go_simp<;>with_reducible rfl)));(try simp only[ap])))
  refine za3 (by rfl) (fun K hK=>?_)
  go_simp;have G:=G.set1 (m:=0) (k:=0) rfl hlo
  have r8:=(Below.heap_setCell V9 ⟨pp,1,none⟩ (.int .i64 0) b (by dsimp only;omega)).trans r8
  have r10:=(Below.heap_setCell V9 ⟨pp,1,none⟩ (.int .i64 0) c (by dsimp only;omega)).trans r10
  refine hK.out _ _ ⟨za0 (j:=2) r10 rfl,za0 (j:=3) r10 rfl⟩ ?_
  clear hK K c0 c1 f0 f1;have hoth2:=fun j (hj:j≠g) (hj2:j≠pp)=>(Below.heap_setCell V9 ⟨pp,1,none⟩ (.int .i64 0) j hj2).trans (hoth j hj)
  clear hoth;obtain⟨V10,hV⟩:∃V,V=V9.setCell ⟨pp,1,none⟩ (.int .i64 0):=⟨_,rfl⟩
  rw[←hV]at G r8 r10 hoth2 ⊢;clear hV
  (try simp only[ap])
  refine zar ?_;refine NoPanic.normal ?_;go_upto_region 19 with fail
  refine wp_region_lit ?_
  repeat(first
   |(refine zaf (by rfl) 99 (.tmp 10) rfl c rfl _ (#[S [0],.int .u16 (41:Int),.int .u16 (cl:Int),.int .u32 (tt:Int),.string ⟨#[]⟩]) _ _ r10 Tryz.underlying99 rfl (by kernel_rfl) ?_)
   |(refine Go.wpList_store_rowTo rfl 99 (.tmp 8) (.tmp 114) rfl rfl b (#[S [0],.int .u16 (41:Int),.int .u16 (cl:Int),.int .u32 (tt:Int),.string ⟨#[]⟩]) rfl rfl 99 _ r8 (by kernel_rfl) rfl (by kernel_rfl) ?_)
   |go_step)
  (try simp only[Exit.inBlock,Exit.then])
  refine bodyPost_ret (zau rfl _ _ b _ _ _ _ rfl (setRow_heap V10 b _ _ _ _ r8) Tryz.underlying99 rfl (by kernel_rfl)) rfl ?_
  have G:=G.rowNew hzw hwb hlw (#[S [0],.int .u16 (41:Int),.int .u16 (cl:Int),.int .u32 (tt:Int),.string ⟨#[]⟩])
  have gr:=zag V10 b #[S [0],.int .u16 (41:Int),.int .u16 (cl:Int),.int .u32 (tt:Int),.string ⟨#[]⟩]
  have hop2:=(hop.by_ (w':=V10.setRow b #[S [0],.int .u16 (41:Int),.int .u16 (cl:Int),.int .u32 (tt:Int),.string ⟨#[]⟩]) fun k hk=>by
   have hk1:=hop.lt k hk
   have h1:=hoth2 k (by have:=hk1.1;simp at this;omega) (by have:=hk1.1;simp at this;omega)
   exact(gr.block k (Array.getElem?_eq_some_iff.1 (h1.trans (Array.getElem?_eq_getElem hk1.2))).1 (fun e=>by injection e with e;have:=hk1.1;simp at this;omega)).trans h1).lower (lo':=w.heap.size) (by simp;omega)
  exact⟨⟨[0],41,cl,tt,[]⟩,false,(p5+sz,0),_,_,_,rfl,G,.inr ⟨rfl,hple,.inr ⟨rfl,y,HT.out.trans (by rw[hy]),rfl,rfl,hop2⟩⟩⟩
end Go.Proofs.YtdnpmapelmjfpaaGreatDoor
