/- Lemmas of this claim. No condition. -/
import Derived.Test.YtdnpmapelmjfpaaGreatDoorLhd
set_option maxHeartbeats 4000000
set_option maxRecDepth 100000
namespace Go.Proofs.YtdnpmapelmjfpaaGreatDoor
open Go.RowKit
def zel (n:List UInt8) (ty cls id size:Int):MsgD:=⟨⟨id,false,0,false,false,true,false,false,false,false,0⟩,[⟨fold n,ty,cls⟩],[],[],[],true,⟨size,0,0,0,[]⟩⟩
def zkr (n:List UInt8) (size:Int):Prop:=may n=true∧0≤size∧size≤65535
instance (n:List UInt8) (size:Int):Decidable (zkr n size):=inferInstanceAs (Decidable (_∧_))
def zmv (n:List UInt8) (ty cls id size:Int):List UInt8:=if zkr n size then zec (zel n ty cls id size)else[]
def zkq (n:List UInt8) (ty cls id size:Int):Nat:=if zkr n size then zau (zel n ty cls id size)else 1
def zqo (n:List UInt8) (ty cls id size:Int) (w:World) (e:Ending) (w':World):Prop:=e=.returned (.tuple #[S (zmv n ty cls id size),.int .i64 (zkq n ty cls id size:Nat)])∧Ext w w'
theorem zm6 {n:List UInt8} {ty cls id size:Int} (ht:0≤ty∧ty≤65535) (hc:0≤cls∧cls≤65535) (hi:0≤id∧id≤65535) (hs:0≤size∧size≤65535):(zel n ty cls id size).wf where
 id:=hi
 op:=by show(0:Int)≤0;omega
 code:=by show(0:Int)≤0;omega
 qs:=by
  intro q hq;have e:q=⟨fold n,ty,cls⟩:=List.mem_singleton.1 hq
  subst e;exact⟨ht,hc⟩
 ans:=by intro r hr;cases hr
 auth:=by intro r hr;cases hr
 extra:=by intro r hr;cases hr
 size:=hs
 ext:=by show(0:Int)≤0∧(0:Int)≤255;omega
 ver:=by show(0:Int)≤0∧(0:Int)≤255;omega
 flags:=by show(0:Int)≤0∧(0:Int)≤65535;omega
 opts:=by intro o ho;cases ho
theorem zob {w:World} {g:Nat} {q:QD} (h:w.heap[g]? =some (.cells #[S q.name,.int .u16 q.typ,.int .u16 q.cls] 32)):Qus w 0 (.slice (some ⟨g,0,none⟩) 1 1) [q]:=by
 refine⟨some ⟨g,0,none⟩,1,rfl,Z4 _,by unfold maxLen;omega,rfl,fun _=>⟨g,0,rfl,Nat.zero_le _,(Z9 h),fun j u hj=>?_⟩⟩
 rw[Nat.zero_add];have dP: #[S q.name,.int .u16 q.typ,.int .u16 q.cls][j]? =some u:=by simpa[zcq]using hj
 simp only[World.cell?,h];exact dP
theorem zkl {w:World} {q:Value} {n:List UInt8} {ty cls id size:Int} (h:Qus w 0 q [⟨fold n,ty,cls⟩]) (hn:(fold n).length≤1048576):Msg7 w (zel n ty cls id size) q (.slice none 0 0) (.slice none 0 0) (.slice none 0 0) (.slice none 0 0):=by
 have hr:Recs w 0 (.slice none 0 0) []:=⟨none,0,rfl,Z4 _,by unfold maxLen;omega,rfl,fun h=>absurd h (by decide)⟩
 refine⟨h,hr,hr,hr,⟨none,0,rfl,Z4 _,by unfold maxLen;omega,rfl,fun h=>absurd (show 0<0 from h) (Nat.lt_irrefl 0)⟩,?_,?_,?_,?_,Nat.zero_le _⟩
 ·intro q hq;have e:q=⟨fold n,ty,cls⟩:=List.mem_singleton.1 hq
  subst e;exact hn
 all_goals(intro r hr;cases hr)
theorem zfu (w:World) (g:Nat) (cs:Array Value) (k:Nat) (h:k≠g):(w.setRow g cs).heap[k]? =w.heap[k]? :=by
 show(w.heap.modify g _)[k]? =_
 rw[Array.getElem?_modify,if_neg (fun e=>h e.symm)]
theorem zjb {X w:World} (hE:Ext X w) {g:Nat} (hg:X.heap.size≤g) (cs:Array Value):Ext X (w.setRow g cs):=
 ⟨hE.os,hE.tape,hE.output,by have:=hE.size;simpa[World.setRow]using this,fun k hk=>(zfu w g cs k (by omega)).trans (hE.block k hk)⟩
theorem zGy {X V:World} {g:Nat} {a b c:Value} {t:TypeId} (hE:Ext X V) (r:X.heap[g]? =some (.cells #[a,b,c] t)):V.cell? ⟨g,0,none⟩=some a∧V.cell? ⟨g,1,none⟩=some b∧V.cell? ⟨g,2,none⟩=some c:=by
 have h:=Z8 hE r
 exact⟨za0 h rfl,za0 h rfl,za0 h rfl⟩
theorem zux (n:List UInt8) (ty cls id size:Int) (w:World) (hg:Laid w) (hb:BitsAt w) (hn:n.length≤1048576) (ht:0≤ty∧ty≤65535) (hc:0≤cls∧cls≤65535) (hi:0≤id∧id≤65535):
 Calls Tryz.prog 57 #[.agg #[S n,.int .u16 ty,.int .u16 cls],.int .u16 id,.int .i64 size] w (zqo n ty cls id size w):=by
 obtain⟨X0,ar⟩:∃X0,X0=w.alloc (.cells #[S n,.int .u16 ty,.int .u16 cls] 32):=⟨_,rfl⟩
 obtain⟨g3,dQ⟩:∃g3,g3=w.heap.size:=⟨_,rfl⟩
 have r0:X0.heap[g3]? =some (.cells #[S n,.int .u16 ty,.int .u16 cls] 32):=by rw[ar,dQ];exact heap_alloc_new _ _
 have aD:Ext w X0:=by rw[ar];exact(Z5 _).alloc _
 have fw:(fold n).length≤1048576:=Z2 (ze4 n) (by omega)
 have kC:=Z7 (fun V=>zbe n V (by unfold maxLen;omega))
 have HF:=Z7 (fun V=>zhg n V (by unfold maxLen;omega))
 go_enter Tryz.func57,Tryz.ntmps57;go_upto_region 1 with fail
 rw[←ar,←dQ];clear ar dQ;have k0:=za0 (j:=0) r0 rfl
 have k1:=za0 (j:=1) r0 rfl
 have k2:=za0 (j:=2) r0 rfl
 by_cases eE:zkr n size
 ·obtain⟨m1,m2,m3⟩:=eE
  have HQ:=Z7 (show zmv n ty cls id size=zec (zel n ty cls id size)from if_pos ⟨m1,m2,m3⟩)
  have sE:=Z7 (show zkq n ty cls id size=zau (zel n ty cls id size)from if_pos ⟨m1,m2,m3⟩)
  rw[m1]at kC;clear m1;have s1:¬size<0:=by omega
  have s2:¬65535<size:=by omega
  go_wp2_with fail;refine(kC.out _).mono ?_;rintro e w1 ⟨rfl,dx⟩;rw[←dx];clear dx;go_upto_region 3 with fail
  have d9:=Z7 (fun V (hV:Ext X0 V)=>zGy hV r0)
  refine wp_region_noPanic ?_;refine za6 (S:=(fun V=>V.cell? ⟨g3,0,none⟩=some (S n)∧V.cell? ⟨g3,1,none⟩=some (.int .u16 ty)∧V.cell? ⟨g3,2,none⟩=some (.int .u16 cls))) (.take 0 (.take 1 (.take 2 (.take 3 (.take 5 (.take 6 (.take 7 (.take 8 (.take 11 (.take 12 (.take 13 (.run2 4 (.take 9 (.run2 10 (.take 14 (.run 15 (.run 16 (.done)))) 15 (.run 10 (.take 14 (.run 16 (.done)))))) 15 (.run 4 (.take 9 (.run 10 (.take 14 (.run 16 (.done)))))))))))))))))) (by kernel_rfl) (by kernel_rfl) (fun _ _ _ _ _ h=>h) ((d9.out _ (Z5 X0).drew)) ?_
  repeat((with_reducible refine za7 ?_);first
   |(refine zb2 (a':=?_) ⟨_,(d9.out _ (Z5 X0).drew)⟩ (by rfl) rfl (by kernel_rfl) rfl ?_ ?_;rotate_left;(focus(intro V Q' hV hq;obtain⟨gp,oj,eX⟩:=hV;(repeat(first|go_guarded|go_skip|go_step));(first|exact hq|exact wpList_nil hq)))))
  refine ziv ?_ ?_
  ·refine za5 (by rfl) (fun K hK=>?_)
   go_simp;refine(HF.out _).mono ?_;rintro e wf ⟨rfl,a6⟩;have jS:Ext X0 wf:=((Z5 X0).drew).trans a6
   clear a6;refine hK.out _ _ ?_ ?_
   ·exact(d9.out _ jS)
   clear hK K
   (try simp only[ap])
   repeat((with_reducible refine za7 ?_);first
    |(refine zb2 (a':=?_) ⟨_,(d9.out _ (Z5 X0).drew)⟩ (by rfl) rfl (by kernel_rfl) rfl ?_ ?_;rotate_left;(focus(intro V Q' hV hq;obtain⟨gp,oj,eX⟩:=hV;(repeat(first|go_guarded|go_skip|go_step));(first|exact hq|exact wpList_nil hq)))))
   refine ziv ?_ ?_
   ·refine za5 (by rfl) (fun K hK=>?_)
    go_simp;obtain⟨gs,mo⟩:∃gs,gs=(wf).heap.size:=⟨_,rfl⟩
    have rs:((wf).alloc (.cells #[S (fold n),.int .u16 ty,.int .u16 cls] 32)).heap[gs]? =some (.cells #[S (fold n),.int .u16 ty,.int .u16 cls] 32):=by rw[mo];exact heap_alloc_new _ _
    have kJ:Ext (wf) ((wf).alloc (.cells #[S (fold n),.int .u16 ty,.int .u16 cls] 32)):=(Z5 _).alloc _
    obtain⟨ws,mp⟩:∃ws,ws=(wf).alloc (.cells #[S (fold n),.int .u16 ty,.int .u16 cls] 32):=⟨_,rfl⟩
    try rw[←mp]
    try rw[←mo]
    rw[←mp]at rs kJ;have bg:Ext X0 ws:=(jS).trans kJ
    clear mp mo;clear kJ;refine hK.out _ _ ?_ ?_
    ·exact(d9.out _ bg)
    clear hK K
    (try simp only[ap])
    repeat((with_reducible refine za7 ?_);first
     |(refine zb2 (a':=?_) ⟨_,(d9.out _ (Z5 X0).drew)⟩ (by rfl) rfl (by kernel_rfl) rfl ?_ ?_;rotate_left;(focus(intro V Q' hV hq;obtain⟨gp,oj,eX⟩:=hV;(repeat(first|go_guarded|go_skip|go_step));(first|exact hq|exact wpList_nil hq)))))
    refine zg1 (by rfl) (fun Q' hQ hP=>?_)
    obtain⟨g8,jW⟩:∃g8,g8=(ws).heap.size:=⟨_,rfl⟩
    have ra:((ws).alloc (.cells zb8 45)).heap[g8]? =some (.cells zb8 45):=by rw[jW];exact heap_alloc_new _ _
    have bQ:Ext (ws) ((ws).alloc (.cells zb8 45)):=(Z5 _).alloc _
    refine Go.Great.wpList_allocTo rfl (some 8) rfl (.pointer (some ⟨(ws).heap.size,0,none⟩)) (.cells zb8 45) (by kernel_rfl) ?_
    rw[←jW];have mq:X0.heap.size≤g8:=by rw[jW];exact(bg).size
    obtain⟨wa,pY⟩:∃wa,wa=(ws).alloc (.cells zb8 45):=⟨_,rfl⟩
    rw[←pY]at ra bQ ⊢;have iw:Ext X0 wa:=(bg).trans bQ
    clear pY jW;have rs:=Z8 bQ rs
    clear bQ;refine wpList_nil ?_;refine hQ.out _ _ (d9.out _ iw) ?_;clear hQ hP Q'
    (try simp only[ap])
    refine zg1 (by rfl) (fun Q' hQ hP=>?_)
    refine Go.wpList_store_rowTo rfl 45 (.tmp 8) (.tmp 35) rfl rfl g8 #[.int .u16 id,.bool false,.int .u8 0,.bool false,.bool false,.bool true,.bool false,.bool false,.bool false,.bool false,.int .u8 0,.slice (some ⟨gs,0,none⟩) 1 1,.slice none 0 0,.slice none 0 0,.slice none 0 0,.bool true,.int .u16 size,.int .u8 0,.int .u8 0,.int .u16 0,.slice none 0 0] rfl rfl 45 _ ra (by kernel_rfl) rfl (by kernel_rfl) ?_
    have i8:gs≠g8:=by intro e;subst e;rw[rs]at ra;injection ra with ra;injection ra with _ h2 _;exact absurd h2 (by decide)
    have rr:=setRow_heap (wa) g8 _ #[.int .u16 id,.bool false,.int .u8 0,.bool false,.bool false,.bool true,.bool false,.bool false,.bool false,.bool false,.int .u8 0,.slice (some ⟨gs,0,none⟩) 1 1,.slice none 0 0,.slice none 0 0,.slice none 0 0,.bool true,.int .u16 size,.int .u8 0,.int .u8 0,.int .u16 0,.slice none 0 0] _ _ ra
    have rq:=(zfu (wa) g8 #[.int .u16 id,.bool false,.int .u8 0,.bool false,.bool false,.bool true,.bool false,.bool false,.bool false,.bool false,.int .u8 0,.slice (some ⟨gs,0,none⟩) 1 1,.slice none 0 0,.slice none 0 0,.slice none 0 0,.bool true,.int .u16 size,.int .u8 0,.int .u8 0,.int .u16 0,.slice none 0 0] gs i8).trans rs
    have bW:Ext X0 (World.setRow (wa) g8 #[.int .u16 id,.bool false,.int .u8 0,.bool false,.bool false,.bool true,.bool false,.bool false,.bool false,.bool false,.int .u8 0,.slice (some ⟨gs,0,none⟩) 1 1,.slice none 0 0,.slice none 0 0,.slice none 0 0,.bool true,.int .u16 size,.int .u8 0,.int .u8 0,.int .u16 0,.slice none 0 0]):=zjb (iw) mq _
    obtain⟨wr,nI⟩:∃wr,wr=World.setRow (wa) g8 #[.int .u16 id,.bool false,.int .u8 0,.bool false,.bool false,.bool true,.bool false,.bool false,.bool false,.bool false,.int .u8 0,.slice (some ⟨gs,0,none⟩) 1 1,.slice none 0 0,.slice none 0 0,.slice none 0 0,.bool true,.int .u16 size,.int .u8 0,.int .u8 0,.int .u16 0,.slice none 0 0]:=⟨_,rfl⟩
    rw[←nI]at rr rq bW ⊢;clear nI;refine wpList_nil ?_;refine hQ.out _ _ (d9.out _ bW) ?_;clear hQ hP Q'
    (try simp only[ap])
    refine zag ?_;refine NoPanic.normal ?_;have xa:Qus wr 0 (.slice (some ⟨gs,0,none⟩) 1 1) [⟨fold n,ty,cls⟩]:=zob (q:=⟨fold n,ty,cls⟩) rq
    have xd:Msg7 wr (zel n ty cls id size) (.slice (some ⟨gs,0,none⟩) 1 1) (.slice none 0 0) (.slice none 0 0) (.slice none 0 0) (.slice none 0 0):=zkl xa fw
    have xe:=zjn (zel n ty cls id size) _ _ _ _ _ wr (hg.ext (aD.trans bW)) (hb.ext (aD.trans bW)) (zm6 ht hc hi ⟨m2,m3⟩) xd
    go_wp2_with(first|(refine za9 (by rfl) 45 (.tmp 8) rfl g8 0 rfl [.int .u16 id,.bool false,.int .u8 0,.bool false,.bool false,.bool true,.bool false,.bool false,.bool false,.bool false,.int .u8 0,.slice (some ⟨gs,0,none⟩) 1 1,.slice none 0 0,.slice none 0 0,.slice none 0 0,.bool true,.int .u16 size,.int .u8 0,.int .u8 0,.int .u16 0,.slice none 0 0] (zba rr) _ Tryz.underlying45 rfl (by kernel_rfl) ?_)|fail)
    refine xe.mono ?_;rintro e we ⟨rfl,xf⟩;go_wp2_with fail
    go_ret2
    exact⟨by rw[HQ.out,sE.out];rfl,(aD.trans bW).trans xf⟩
   ·refine zg1 (by rfl) (fun Q' hQ hP=>?_)
    obtain⟨g8,jW⟩:∃g8,g8=(wf).heap.size:=⟨_,rfl⟩
    have ra:((wf).alloc (.cells zb8 45)).heap[g8]? =some (.cells zb8 45):=by rw[jW];exact heap_alloc_new _ _
    have bQ:Ext (wf) ((wf).alloc (.cells zb8 45)):=(Z5 _).alloc _
    refine Go.Great.wpList_allocTo rfl (some 8) rfl (.pointer (some ⟨(wf).heap.size,0,none⟩)) (.cells zb8 45) (by kernel_rfl) ?_
    rw[←jW];have mq:X0.heap.size≤g8:=by rw[jW];exact(jS).size
    obtain⟨wa,pY⟩:∃wa,wa=(wf).alloc (.cells zb8 45):=⟨_,rfl⟩
    rw[←pY]at ra bQ ⊢;have iw:Ext X0 wa:=(jS).trans bQ
    clear pY jW;clear bQ;refine wpList_nil ?_;refine hQ.out _ _ (d9.out _ iw) ?_;clear hQ hP Q'
    (try simp only[ap])
    refine za5 (by rfl) (fun K hK=>?_)
    go_simp;obtain⟨gs,mo⟩:∃gs,gs=(wa).heap.size:=⟨_,rfl⟩
    have rs:((wa).alloc (.cells #[S (fold n),.int .u16 ty,.int .u16 cls] 32)).heap[gs]? =some (.cells #[S (fold n),.int .u16 ty,.int .u16 cls] 32):=by rw[mo];exact heap_alloc_new _ _
    have kJ:Ext (wa) ((wa).alloc (.cells #[S (fold n),.int .u16 ty,.int .u16 cls] 32)):=(Z5 _).alloc _
    obtain⟨ws,mp⟩:∃ws,ws=(wa).alloc (.cells #[S (fold n),.int .u16 ty,.int .u16 cls] 32):=⟨_,rfl⟩
    try rw[←mp]
    try rw[←mo]
    rw[←mp]at rs kJ;have bg:Ext X0 ws:=(iw).trans kJ
    clear mp mo;have ra:=Z8 kJ ra
    clear kJ;refine hK.out _ _ ?_ ?_
    ·exact(d9.out _ bg)
    clear hK K
    (try simp only[ap])
    repeat((with_reducible refine za7 ?_);first
     |(refine zb2 (a':=?_) ⟨_,(d9.out _ (Z5 X0).drew)⟩ (by rfl) rfl (by kernel_rfl) rfl ?_ ?_;rotate_left;(focus(intro V Q' hV hq;obtain⟨gp,oj,eX⟩:=hV;(repeat(first|go_guarded|go_skip|go_step));(first|exact hq|exact wpList_nil hq)))))
    refine zg1 (by rfl) (fun Q' hQ hP=>?_)
    refine Go.wpList_store_rowTo rfl 45 (.tmp 8) (.tmp 35) rfl rfl g8 #[.int .u16 id,.bool false,.int .u8 0,.bool false,.bool false,.bool true,.bool false,.bool false,.bool false,.bool false,.int .u8 0,.slice (some ⟨gs,0,none⟩) 1 1,.slice none 0 0,.slice none 0 0,.slice none 0 0,.bool true,.int .u16 size,.int .u8 0,.int .u8 0,.int .u16 0,.slice none 0 0] rfl rfl 45 _ ra (by kernel_rfl) rfl (by kernel_rfl) ?_
    have i8:gs≠g8:=by intro e;subst e;rw[rs]at ra;injection ra with ra;injection ra with _ h2 _;exact absurd h2 (by decide)
    have rr:=setRow_heap (ws) g8 _ #[.int .u16 id,.bool false,.int .u8 0,.bool false,.bool false,.bool true,.bool false,.bool false,.bool false,.bool false,.int .u8 0,.slice (some ⟨gs,0,none⟩) 1 1,.slice none 0 0,.slice none 0 0,.slice none 0 0,.bool true,.int .u16 size,.int .u8 0,.int .u8 0,.int .u16 0,.slice none 0 0] _ _ ra
    have rq:=(zfu (ws) g8 #[.int .u16 id,.bool false,.int .u8 0,.bool false,.bool false,.bool true,.bool false,.bool false,.bool false,.bool false,.int .u8 0,.slice (some ⟨gs,0,none⟩) 1 1,.slice none 0 0,.slice none 0 0,.slice none 0 0,.bool true,.int .u16 size,.int .u8 0,.int .u8 0,.int .u16 0,.slice none 0 0] gs i8).trans rs
    have bW:Ext X0 (World.setRow (ws) g8 #[.int .u16 id,.bool false,.int .u8 0,.bool false,.bool false,.bool true,.bool false,.bool false,.bool false,.bool false,.int .u8 0,.slice (some ⟨gs,0,none⟩) 1 1,.slice none 0 0,.slice none 0 0,.slice none 0 0,.bool true,.int .u16 size,.int .u8 0,.int .u8 0,.int .u16 0,.slice none 0 0]):=zjb (bg) mq _
    obtain⟨wr,nI⟩:∃wr,wr=World.setRow (ws) g8 #[.int .u16 id,.bool false,.int .u8 0,.bool false,.bool false,.bool true,.bool false,.bool false,.bool false,.bool false,.int .u8 0,.slice (some ⟨gs,0,none⟩) 1 1,.slice none 0 0,.slice none 0 0,.slice none 0 0,.bool true,.int .u16 size,.int .u8 0,.int .u8 0,.int .u16 0,.slice none 0 0]:=⟨_,rfl⟩
    rw[←nI]at rr rq bW ⊢;clear nI;refine wpList_nil ?_;refine hQ.out _ _ (d9.out _ bW) ?_;clear hQ hP Q'
    (try simp only[ap])
    refine zag ?_;refine NoPanic.normal ?_;have xa:Qus wr 0 (.slice (some ⟨gs,0,none⟩) 1 1) [⟨fold n,ty,cls⟩]:=zob (q:=⟨fold n,ty,cls⟩) rq
    have xd:Msg7 wr (zel n ty cls id size) (.slice (some ⟨gs,0,none⟩) 1 1) (.slice none 0 0) (.slice none 0 0) (.slice none 0 0) (.slice none 0 0):=zkl xa fw
    have xe:=zjn (zel n ty cls id size) _ _ _ _ _ wr (hg.ext (aD.trans bW)) (hb.ext (aD.trans bW)) (zm6 ht hc hi ⟨m2,m3⟩) xd
    go_wp2_with(first|(refine za9 (by rfl) 45 (.tmp 8) rfl g8 0 rfl [.int .u16 id,.bool false,.int .u8 0,.bool false,.bool false,.bool true,.bool false,.bool false,.bool false,.bool false,.int .u8 0,.slice (some ⟨gs,0,none⟩) 1 1,.slice none 0 0,.slice none 0 0,.slice none 0 0,.bool true,.int .u16 size,.int .u8 0,.int .u8 0,.int .u16 0,.slice none 0 0] (zba rr) _ Tryz.underlying45 rfl (by kernel_rfl) ?_)|fail)
    refine xe.mono ?_;rintro e we ⟨rfl,xf⟩;go_wp2_with fail
    go_ret2
    exact⟨by rw[HQ.out,sE.out];rfl,(aD.trans bW).trans xf⟩
  ·refine zg1 (by rfl) (fun Q' hQ hP=>?_)
   obtain⟨g8,jW⟩:∃g8,g8=(X0.drew).heap.size:=⟨_,rfl⟩
   have ra:((X0.drew).alloc (.cells zb8 45)).heap[g8]? =some (.cells zb8 45):=by rw[jW];exact heap_alloc_new _ _
   have bQ:Ext (X0.drew) ((X0.drew).alloc (.cells zb8 45)):=(Z5 _).alloc _
   refine Go.Great.wpList_allocTo rfl (some 8) rfl (.pointer (some ⟨(X0.drew).heap.size,0,none⟩)) (.cells zb8 45) (by kernel_rfl) ?_
   rw[←jW];have mq:X0.heap.size≤g8:=by rw[jW];exact((Z5 X0).drew).size
   obtain⟨wa,pY⟩:∃wa,wa=(X0.drew).alloc (.cells zb8 45):=⟨_,rfl⟩
   rw[←pY]at ra bQ ⊢;have iw:Ext X0 wa:=((Z5 X0).drew).trans bQ
   clear pY jW;clear bQ;refine wpList_nil ?_;refine hQ.out _ _ (d9.out _ iw) ?_;clear hQ hP Q'
   (try simp only[ap])
   refine za5 (by rfl) (fun K hK=>?_)
   go_simp;refine(HF.out _).mono ?_;rintro e wf ⟨rfl,a6⟩;have jS:Ext X0 wf:=(iw).trans a6
   have ra:=Z8 a6 ra
   clear a6;refine hK.out _ _ ?_ ?_
   ·exact(d9.out _ jS)
   clear hK K
   (try simp only[ap])
   repeat((with_reducible refine za7 ?_);first
    |(refine zb2 (a':=?_) ⟨_,(d9.out _ (Z5 X0).drew)⟩ (by rfl) rfl (by kernel_rfl) rfl ?_ ?_;rotate_left;(focus(intro V Q' hV hq;obtain⟨gp,oj,eX⟩:=hV;(repeat(first|go_guarded|go_skip|go_step));(first|exact hq|exact wpList_nil hq)))))
   refine za5 (by rfl) (fun K hK=>?_)
   go_simp;obtain⟨gs,mo⟩:∃gs,gs=(wf).heap.size:=⟨_,rfl⟩
   have rs:((wf).alloc (.cells #[S (fold n),.int .u16 ty,.int .u16 cls] 32)).heap[gs]? =some (.cells #[S (fold n),.int .u16 ty,.int .u16 cls] 32):=by rw[mo];exact heap_alloc_new _ _
   have kJ:Ext (wf) ((wf).alloc (.cells #[S (fold n),.int .u16 ty,.int .u16 cls] 32)):=(Z5 _).alloc _
   obtain⟨ws,mp⟩:∃ws,ws=(wf).alloc (.cells #[S (fold n),.int .u16 ty,.int .u16 cls] 32):=⟨_,rfl⟩
   try rw[←mp]
   try rw[←mo]
   rw[←mp]at rs kJ;have bg:Ext X0 ws:=(jS).trans kJ
   clear mp mo;have ra:=Z8 kJ ra
   clear kJ;refine hK.out _ _ ?_ ?_
   ·exact(d9.out _ bg)
   clear hK K
   (try simp only[ap])
   repeat((with_reducible refine za7 ?_);first
    |(refine zb2 (a':=?_) ⟨_,(d9.out _ (Z5 X0).drew)⟩ (by rfl) rfl (by kernel_rfl) rfl ?_ ?_;rotate_left;(focus(intro V Q' hV hq;obtain⟨gp,oj,eX⟩:=hV;(repeat(first|go_guarded|go_skip|go_step));(first|exact hq|exact wpList_nil hq)))))
   refine zg1 (by rfl) (fun Q' hQ hP=>?_)
   refine Go.wpList_store_rowTo rfl 45 (.tmp 8) (.tmp 35) rfl rfl g8 #[.int .u16 id,.bool false,.int .u8 0,.bool false,.bool false,.bool true,.bool false,.bool false,.bool false,.bool false,.int .u8 0,.slice (some ⟨gs,0,none⟩) 1 1,.slice none 0 0,.slice none 0 0,.slice none 0 0,.bool true,.int .u16 size,.int .u8 0,.int .u8 0,.int .u16 0,.slice none 0 0] rfl rfl 45 _ ra (by kernel_rfl) rfl (by kernel_rfl) ?_
   have i8:gs≠g8:=by intro e;subst e;rw[rs]at ra;injection ra with ra;injection ra with _ h2 _;exact absurd h2 (by decide)
   have rr:=setRow_heap (ws) g8 _ #[.int .u16 id,.bool false,.int .u8 0,.bool false,.bool false,.bool true,.bool false,.bool false,.bool false,.bool false,.int .u8 0,.slice (some ⟨gs,0,none⟩) 1 1,.slice none 0 0,.slice none 0 0,.slice none 0 0,.bool true,.int .u16 size,.int .u8 0,.int .u8 0,.int .u16 0,.slice none 0 0] _ _ ra
   have rq:=(zfu (ws) g8 #[.int .u16 id,.bool false,.int .u8 0,.bool false,.bool false,.bool true,.bool false,.bool false,.bool false,.bool false,.int .u8 0,.slice (some ⟨gs,0,none⟩) 1 1,.slice none 0 0,.slice none 0 0,.slice none 0 0,.bool true,.int .u16 size,.int .u8 0,.int .u8 0,.int .u16 0,.slice none 0 0] gs i8).trans rs
   have bW:Ext X0 (World.setRow (ws) g8 #[.int .u16 id,.bool false,.int .u8 0,.bool false,.bool false,.bool true,.bool false,.bool false,.bool false,.bool false,.int .u8 0,.slice (some ⟨gs,0,none⟩) 1 1,.slice none 0 0,.slice none 0 0,.slice none 0 0,.bool true,.int .u16 size,.int .u8 0,.int .u8 0,.int .u16 0,.slice none 0 0]):=zjb (bg) mq _
   obtain⟨wr,nI⟩:∃wr,wr=World.setRow (ws) g8 #[.int .u16 id,.bool false,.int .u8 0,.bool false,.bool false,.bool true,.bool false,.bool false,.bool false,.bool false,.int .u8 0,.slice (some ⟨gs,0,none⟩) 1 1,.slice none 0 0,.slice none 0 0,.slice none 0 0,.bool true,.int .u16 size,.int .u8 0,.int .u8 0,.int .u16 0,.slice none 0 0]:=⟨_,rfl⟩
   rw[←nI]at rr rq bW ⊢;clear nI;refine wpList_nil ?_;refine hQ.out _ _ (d9.out _ bW) ?_;clear hQ hP Q'
   (try simp only[ap])
   refine zag ?_;refine NoPanic.normal ?_;have xa:Qus wr 0 (.slice (some ⟨gs,0,none⟩) 1 1) [⟨fold n,ty,cls⟩]:=zob (q:=⟨fold n,ty,cls⟩) rq
   have xd:Msg7 wr (zel n ty cls id size) (.slice (some ⟨gs,0,none⟩) 1 1) (.slice none 0 0) (.slice none 0 0) (.slice none 0 0) (.slice none 0 0):=zkl xa fw
   have xe:=zjn (zel n ty cls id size) _ _ _ _ _ wr (hg.ext (aD.trans bW)) (hb.ext (aD.trans bW)) (zm6 ht hc hi ⟨m2,m3⟩) xd
   go_wp2_with(first|(refine za9 (by rfl) 45 (.tmp 8) rfl g8 0 rfl [.int .u16 id,.bool false,.int .u8 0,.bool false,.bool false,.bool true,.bool false,.bool false,.bool false,.bool false,.int .u8 0,.slice (some ⟨gs,0,none⟩) 1 1,.slice none 0 0,.slice none 0 0,.slice none 0 0,.bool true,.int .u16 size,.int .u8 0,.int .u8 0,.int .u16 0,.slice none 0 0] (zba rr) _ Tryz.underlying45 rfl (by kernel_rfl) ?_)|fail)
   refine xe.mono ?_;rintro e we ⟨rfl,xf⟩;go_wp2_with fail
   go_ret2
   exact⟨by rw[HQ.out,sE.out];rfl,(aD.trans bW).trans xf⟩
 ·have HQ:=Z7 (show zmv n ty cls id size=[]from if_neg eE)
  have sE:=Z7 (show zkq n ty cls id size=1 from if_neg eE)
  have hm:may n=true→size<0∨65535<size:=fun h=>by
   by_cases h0:size<0
   ·exact .inl h0
   ·refine .inr ?_;by_cases h1:65535<size
    ·exact h1
    ·exact absurd ⟨h,by omega,by omega⟩ eE
  clear eE;go_wp2_with fail;refine(kC.out _).mono ?_;rintro e w1 ⟨rfl,dx⟩;rw[←dx];clear dx;rcases fS:may n with _|_
  ·clear hm;go_wp2_with fail
   go_ret2
   exact⟨by rw[HQ.out,sE.out];rfl,aD⟩
  ·rcases hm fS with s1|s1
   ·go_wp2_with fail
    go_ret2
    exact⟨by rw[HQ.out,sE.out];rfl,aD⟩
   ·have s0:¬size<0:=by omega
    go_wp2_with fail
    go_ret2
    exact⟨by rw[HQ.out,sE.out];rfl,aD⟩
def zga:List UInt8:=[2,101,120,0]
def zc8 (a b:UInt8):List UInt8:=[0,7,a,b,0,1,0,0,0,0,0,1,2,101,120,0,0,1,0,1,0,0,41,4,208,0,0,0,0,0,0]
theorem zwt:zmv zga 1 1 7 1232=zc8 1 0∧zkq zga 1 1 7 1232=0:=⟨by kernel_rfl,by kernel_rfl⟩
theorem zGo:replyOf (zc8 129 0) zga 1 1=⟨3,⟨0,[],[],0,0⟩⟩:=by kernel_rfl
theorem zGe:replyOf (zc8 131 0) zga 1 1=.pass:=by kernel_rfl
theorem zG2:replyOf (zc8 129 2) zga 1 1=.pass:=by kernel_rfl
theorem zGu:replyOf (zc8 1 0) zga 1 1=.bad:=by kernel_rfl
theorem zzy (k:Int) (x1 x2 x3 x4:Value) (w:World):(Instr.field 73 (.agg #[.int .u8 k,x1,x2,x3,x4]) 0).run Tryz.prog w=.ok (.int .u8 k) w:=by kernel_rfl
theorem zD5 (w:World):Calls Tryz.prog 58 #[] w fun e w'=>e=.returned (.agg #[S zga,.int .u16 1,.int .u16 1])∧Ext w w':=by
 obtain⟨X0,ar⟩:∃X0,X0=w.alloc (.cells #[S [],.int .u16 0,.int .u16 0] 32):=⟨_,rfl⟩
 have r0:X0.heap[w.heap.size]? =some (.cells #[S [],.int .u16 0,.int .u16 0] 32):=by rw[ar];exact heap_alloc_new _ _
 have aD:Ext w X0:=by rw[ar];exact(Z5 _).alloc _
 go_enter Tryz.func58,Tryz.ntmps58;go_upto_region 1 with fail
 have aW:w.alloc (.cells #[S [],.int .u16 0,.int .u16 0] 32)=X0:=ar.symm
 try rw[aW]
 clear aW ar;have y0:=za0 (j:=0) r0 rfl
 have y1:=za0 (j:=1) r0 rfl
 have y2:=za0 (j:=2) r0 rfl
 have f0:=za3 (j:=0) r0
 have f1:=za3 (j:=1) r0
 have f2:=za3 (j:=2) r0
 go_wp2_with fail;obtain⟨U,hU⟩:∃U,U=(((X0.setCell ⟨w.heap.size,0,none⟩ (S zga)).setCell ⟨w.heap.size,1,none⟩ (.int .u16 1)).setCell ⟨w.heap.size,2,none⟩ (.int .u16 1)):=⟨_,rfl⟩
 have IA:(((X0.setCell ⟨w.heap.size,0,none⟩ (S [2,101,120,0])).setCell ⟨w.heap.size,1,none⟩ (.int .u16 1)).setCell ⟨w.heap.size,2,none⟩ (.int .u16 1))=U:=hU.symm
 try rw[IA]
 have ru:U.heap[w.heap.size]? =some (.cells #[S zga,.int .u16 1,.int .u16 1] 32):=by rw[hU];exact za2 (za2 (za2 r0 0 _) 1 _) 2 _
 have cu:Ext w U:=by rw[hU];exact(((aD).setCell (Z4 _) _).setCell (Z4 _) _).setCell (Z4 _) _
 refine bodyPost_ret (zc6 rfl _ _ w.heap.size _ _ _ _ rfl ru Tryz.underlying32 rfl (by kernel_rfl)) rfl ?_
 exact⟨rfl,cu⟩
theorem zfs (s f:List UInt8) (w:World) (hs:4≤s.length) (hl:s.length≤1048576) (hf:f.length≤1048576):Calls Tryz.prog 59 #[S s,S f] w fun e w'=>e=.returned (S (s.take 2++f++s.drop 4))∧Ext w w':=by
 have h1:¬((s.length:Int)<4):=by omega
 have h2:¬((s.length:Int)<2):=by omega
 have h3:(2:Int)≤(s.length:Int):=by omega
 have h4:(4:Int)≤(s.length:Int):=by omega
 have c1:¬9223372036854775807<min 2 s.length+f.length:=by omega
 have c2:¬9223372036854775807<min 2 s.length+f.length+(s.length - 4):=by omega
 go_enter Tryz.func59,Tryz.ntmps59;go_upto_region 3 with fail
 go_region;go_wp2_with fail;go_ret;refine⟨?_,(Z5 w).drew⟩;show Ending.returned (S (List.take 2 s++(f++List.take (s.length - 4) (List.drop 4 s))))=_
 rw[List.take_of_length_le (show(List.drop 4 s).length≤s.length - 4 by rw[List.length_drop];exact Z4 _)]
 try rw[List.append_assoc]
theorem zv0 (a b:Addr) (w:World) (hg:Laid w) (hb:BitsAt w) (he:ErrsAt w a b):Calls Tryz.prog 25 #[] w fun e w'=>e=.returned (.bool true)∧Ext w w':=by
 have HX:=Z7 (fun V=>zD5 V)
 have HQ:=Z7 (fun V (hV:Ext w V)=>zux zga 1 1 7 1232 V (hg.ext hV) (hb.ext hV) (by decide) (by decide) (by decide) (by decide))
 unfold zqo at HQ;rw[zwt.1,zwt.2]at HQ;have HV:=Z7 (fun V (hV:Ext w V)=>zgd (zc8 129 0) zga 1 1 a b V (hg.ext hV) (hb.ext hV) (he.ext hV) (by decide) (by decide))
 have HP:=Z7 (fun V (hV:Ext w V)=>zgd (zc8 131 0) zga 1 1 a b V (hg.ext hV) (hb.ext hV) (he.ext hV) (by decide) (by decide))
 have HC:=Z7 (fun V (hV:Ext w V)=>zgd (zc8 129 2) zga 1 1 a b V (hg.ext hV) (hb.ext hV) (he.ext hV) (by decide) (by decide))
 have HB:=Z7 (fun V (hV:Ext w V)=>zgd (zc8 1 0) zga 1 1 a b V (hg.ext hV) (hb.ext hV) (he.ext hV) (by decide) (by decide))
 rw[zGo]at HV;rw[zGe]at HP;rw[zG2]at HC;rw[zGu]at HB;unfold zmm at HV HP HC HB;have F1:=Z7 (fun V=>zfs (zc8 1 0) [129,0] V (by decide) (by decide) (by decide))
 have F2:=Z7 (fun V=>zfs (zc8 1 0) [131,0] V (by decide) (by decide) (by decide))
 have F3:=Z7 (fun V=>zfs (zc8 1 0) [129,2] V (by decide) (by decide) (by decide))
 have F4:=Z7 (fun V=>zfs (zc8 1 0) [1,0] V (by decide) (by decide) (by decide))
 rw[show(zc8 1 0).take 2++[129,0]++(zc8 1 0).drop 4=zc8 129 0 from rfl]at F1
 rw[show(zc8 1 0).take 2++[131,0]++(zc8 1 0).drop 4=zc8 131 0 from rfl]at F2
 rw[show(zc8 1 0).take 2++[129,2]++(zc8 1 0).drop 4=zc8 129 2 from rfl]at F3
 rw[show(zc8 1 0).take 2++[1,0]++(zc8 1 0).drop 4=zc8 1 0 from rfl]at F4
 have Ke:=zzy
 go_enter Tryz.func25,Tryz.ntmps25;go_wp2_with fail;refine(HX.out _).mono ?_;rintro e w1 ⟨rfl,dx⟩;have ae:Ext w w1:=Ext.trans ((Z5 w)) dx
 clear dx;go_wp2_with fail;refine(HQ.out _ (ae)).mono ?_;rintro e w2 ⟨rfl,eS⟩;have ah:Ext w w2:=Ext.trans (ae) eS
 clear eS;go_wp2_with fail;refine(HX.out _).mono ?_;rintro e w3 ⟨rfl,gQ⟩;have ao:Ext w w3:=Ext.trans (ah) gQ
 clear gQ;go_wp2_with fail;refine(F1.out _).mono ?_;rintro e w4 ⟨rfl,x6⟩;have aL:Ext w w4:=Ext.trans (ao) x6
 clear x6;go_wp2_with fail;refine(HV.out _ (aL)).mono ?_;rintro e w5 ⟨vs5,vo5,rfl,kU,cw,_,pX⟩;have am:Ext w w5:=Ext.trans (aL) pX
 obtain⟨ps5,pA5,pc5,re,rfl,_,_⟩:=kU
 obtain⟨po5,tA5,tc5,_,rfl,_,_⟩:=cw
 have yM:ps5=[]:=List.map_eq_nil_iff.1 re
 subst yM;clear pX re;dsimp only[ReplyD.pass,ReplyD.bad,VerR.bad]
 try simp only[List.length_nil]
 go_wp2_with fail;refine(HX.out _).mono ?_;rintro e w6 ⟨rfl,mQ⟩;have aw:Ext w w6:=Ext.trans ((am.alloc _)) mQ
 clear mQ;go_wp2_with fail;refine(F2.out _).mono ?_;rintro e w7 ⟨rfl,uJ⟩;have aS:Ext w w7:=Ext.trans (aw) uJ
 clear uJ;go_wp2_with fail;refine(HP.out _ (aS)).mono ?_;rintro e w8 ⟨vs8,vo8,rfl,IB,ia,_,Eh⟩;have dj:Ext w w8:=Ext.trans (aS) Eh
 obtain⟨ps8,pA8,pc8,tL,rfl,_,_⟩:=IB
 obtain⟨po8,tA8,tc8,_,rfl,_,_⟩:=ia
 have AL:ps8=[]:=List.map_eq_nil_iff.1 tL
 subst AL;clear Eh tL;dsimp only[ReplyD.pass,ReplyD.bad,VerR.bad]
 try simp only[List.length_nil]
 go_wp2_with fail;refine(HX.out _).mono ?_;rintro e w9 ⟨rfl,yp⟩;have ej:Ext w w9:=Ext.trans (dj) yp
 clear yp;go_wp2_with fail;refine(F3.out _).mono ?_;rintro e w10 ⟨rfl,xg⟩;have bg:Ext w w10:=Ext.trans (ej) xg
 clear xg;go_wp2_with fail;refine(HC.out _ (bg)).mono ?_;rintro e w11 ⟨vs11,vo11,rfl,Cb,Cc,_,xh⟩;have gu:Ext w w11:=Ext.trans (bg) xh
 obtain⟨ps11,pA11,pc11,xi,rfl,_,_⟩:=Cb
 obtain⟨po11,tA11,tc11,_,rfl,_,_⟩:=Cc
 have Cd:ps11=[]:=List.map_eq_nil_iff.1 xi
 subst Cd;clear xh xi;dsimp only[ReplyD.pass,ReplyD.bad,VerR.bad]
 try simp only[List.length_nil]
 go_wp2_with fail;refine(HX.out _).mono ?_;rintro e w12 ⟨rfl,xj⟩;have gw:Ext w w12:=Ext.trans (gu) xj
 clear xj;go_wp2_with fail;refine(F4.out _).mono ?_;rintro e w13 ⟨rfl,xm⟩;have ie:Ext w w13:=Ext.trans (gw) xm
 clear xm;go_wp2_with fail;refine(HB.out _ (ie)).mono ?_;rintro e w14 ⟨vs14,vo14,rfl,Ce,Cf,_,xp⟩;have ly:Ext w w14:=Ext.trans (ie) xp
 obtain⟨ps14,pA14,pc14,xq,rfl,_,_⟩:=Ce
 obtain⟨po14,tA14,tc14,_,rfl,_,_⟩:=Cf
 have Cg:ps14=[]:=List.map_eq_nil_iff.1 xq
 subst Cg;clear xp xq;dsimp only[ReplyD.pass,ReplyD.bad,VerR.bad]
 try simp only[List.length_nil]
 go_wp2_with fail;go_ret;exact⟨rfl,ly⟩
end Go.Proofs.YtdnpmapelmjfpaaGreatDoor
