/- Lemmas of this claim. No condition. -/
import Derived.Test.YtdnpmapelmjfpaaGreatDoorLf
set_option linter.unusedVariables false
set_option linter.unusedSimpArgs false
namespace Go.Proofs.YtdnpmapelmjfpaaGreatDoor
abbrev Tab:=List (List UInt8×Nat)
def zb6 (t:Tab) (n:List UInt8):Option Nat:=(t.find? fun e=>e.1==n).map Prod.snd
def two (k:Nat):List UInt8:=[UInt8.ofNat (k/256),UInt8.ofNat k]
def zdp (k:Nat):List UInt8:=[UInt8.ofNat (k/16777216),UInt8.ofNat (k/65536),UInt8.ofNat (k/256),UInt8.ofNat k]
def zgs (k:Nat):List UInt8:=[UInt8.ofNat (192+k/256),UInt8.ofNat k]
theorem zah (k:Nat):(two k).length=2:=rfl
theorem zgp (k:Nat):(zdp k).length=4:=rfl
theorem zo8 (k:Nat):(zgs k).length=2:=rfl
def zbs (known:Bool) (n:List UInt8) (pos:Nat) (t:Tab):Tab:=if known=true∧zb6 t n=none∧pos≤16383 then t++[(n,pos)]else t
def ze1 (cmp known:Bool):Nat→Nat→List UInt8→Tab→List UInt8×Tab
 |0,_,n,t=>(n,t)
 |_+1,_,[],t=>([],t)
 |f+1,pos,b::r,t=>
  if b=0 then(b::r,t)
  else if(zb6 t (b::r)).isSome=true∧cmp=true then(zgs ((zb6 t (b::r)).getD 0),t)
  else(b::r.take b.toNat++(ze1 cmp known f (pos+(1+b.toNat)) (r.drop b.toNat) (zbs known (b::r) pos t)).1,
   (ze1 cmp known f (pos+(1+b.toNat)) (r.drop b.toNat) (zbs known (b::r) pos t)).2)
def putN (cmp known:Bool) (pos:Nat) (n:List UInt8) (t:Tab):List UInt8×Tab:=ze1 cmp known (n.length+1) pos n t
theorem zre (cmp known:Bool):∀(f g pos:Nat) (n:List UInt8) (t:Tab),n.length<f→n.length<g→ze1 cmp known f pos n t=ze1 cmp known g pos n t
 |0,_,_,_,_,h,_=>absurd h (by omega)
 |f+1,0,_,_,_,_,h=>absurd h (by omega)
 |f+1,g+1,pos,[],t,_,_=>rfl
 |f+1,g+1,pos,b::r,t,h1,h2=>by
  simp only[List.length_cons]at h1 h2;simp only[ze1];rw[zre cmp known f g (pos+(1+b.toNat)) (r.drop b.toNat) _ (by simp;omega) (by simp;omega)]
theorem zm5 (cmp known:Bool) (pos:Nat) (r:List UInt8) (t:Tab):putN cmp known pos (0::r) t=(0::r,t):=rfl
theorem ztt {cmp known:Bool} {pos:Nat} {b:UInt8} {r:List UInt8} {t:Tab} {k:Nat} (h0:b≠0) (ht:zb6 t (b::r)=some k) (hc:cmp=true):putN cmp known pos (b::r) t=(zgs k,t):=by
 unfold putN;simp only[ze1];rw[if_neg h0,if_pos ⟨by rw[ht];rfl,hc⟩,ht];rfl
theorem zrf {cmp known:Bool} {pos:Nat} {b:UInt8} {r:List UInt8} {t:Tab} (h0:b≠0) (h:¬((zb6 t (b::r)).isSome=true∧cmp=true)):
 putN cmp known pos (b::r) t=(b::r.take b.toNat++(putN cmp known (pos+(1+b.toNat)) (r.drop b.toNat) (zbs known (b::r) pos t)).1,
  (putN cmp known (pos+(1+b.toNat)) (r.drop b.toNat) (zbs known (b::r) pos t)).2):=by
 unfold putN
 conv=>lhs;unfold ze1
 rw[if_neg h0,if_neg h,zre cmp known _ ((r.drop b.toNat).length+1) _ _ _ (by simp;omega) (by omega)]
theorem zpl {known:Bool} {n:List UInt8} {pos:Nat} {t:Tab} (h:16384≤pos):zbs known n pos t=t:=by
 unfold zbs;rw[if_neg (by omega)]
theorem zo9 (cmp known:Bool):∀(f p q:Nat) (n:List UInt8) (t:Tab),16384≤p→16384≤q→ze1 cmp known f p n t=ze1 cmp known f q n t
 |0,_,_,_,_,_,_=>rfl
 |_+1,_,_,[],_,_,_=>rfl
 |f+1,p,q,b::r,t,h1,h2=>by
  simp only[ze1];rw[zpl h1,zpl h2,zo9 cmp known f (p+(1+b.toNat)) (q+(1+b.toNat)) _ _ (by omega) (by omega)]
theorem zB0 (cmp known:Bool) (p:Nat) (n:List UInt8) (t:Tab):putN cmp known (min p 16384) n t=putN cmp known p n t:=by
 by_cases h:p≤16384
 ·rw[Nat.min_eq_left h]
 ·exact zo9 _ _ _ _ _ _ _ (by omega) (by omega)
def zay (cmp:Bool):Nat→List (List UInt8×Bool)→Tab→List UInt8×Tab
 |_,[],t=>([],t)
 |pos,(x,nm)::l,t=>
  if nm=true then((putN cmp cmp pos x t).1++(zay cmp (pos+(putN cmp cmp pos x t).1.length) l (putN cmp cmp pos x t).2).1,(zay cmp (pos+(putN cmp cmp pos x t).1.length) l (putN cmp cmp pos x t).2).2)
  else(x++(zay cmp (pos+x.length) l t).1,(zay cmp (pos+x.length) l t).2)
theorem zko (cmp:Bool):∀(p q:Nat) (l:List (List UInt8×Bool)) (t:Tab),16384≤p→16384≤q→zay cmp p l t=zay cmp q l t
 |_,_,[],_,_,_=>rfl
 |p,q,(x,nm)::l,t,h1,h2=>by
  have e:putN cmp cmp p x t=putN cmp cmp q x t:=zo9 _ _ _ _ _ _ _ h1 h2
  simp only[zay];rw[e,zko cmp (p+(putN cmp cmp q x t).1.length) (q+(putN cmp cmp q x t).1.length) l _ (by omega) (by omega),zko cmp (p+x.length) (q+x.length) l t (by omega) (by omega)]
theorem zv8 (cmp:Bool) (p:Nat) (l:List (List UInt8×Bool)) (t:Tab):zay cmp (min p 16384) l t=zay cmp p l t:=by
 by_cases h:p≤16384
 ·rw[Nat.min_eq_left h]
 ·exact zko _ _ _ _ _ (by omega) (by omega)
def cmpOf (kind:Int):Bool:=decide (kind=2∨kind=5∨kind=6∨kind=12∨kind=15)
def zdo (pos:Nat) (kind:Int) (d:List UInt8) (t:Tab):List UInt8×Tab:=zay (cmpOf kind) pos ((partsOf kind d).map fun p=>(p.text,p.nm)) t
structure QD where
 name:List UInt8
 typ:Int
 cls:Int
structure HdD where
 id:Int
 qr:Bool
 op:Int
 aa:Bool
 tc:Bool
 rd:Bool
 ra:Bool
 z:Bool
 ad:Bool
 cd:Bool
 code:Int
structure OpD where
 code:Int
 data:List UInt8
structure EdD where
 size:Int
 ext:Int
 ver:Int
 flags:Int
 opts:List OpD
structure MsgD where
 hd:HdD
 qs:List QD
 ans:List RecD
 auth:List RecD
 extra:List RecD
 he:Bool
 ed:EdD
def zae (b:Bool) (n:Nat):Nat:=if b then n else 0
def zcf (h:HdD):Nat:=zae h.qr 32768+h.op.toNat*2048+zae h.aa 1024+zae h.tc 512+zae h.rd 256+zae h.ra 128+zae h.z 64+zae h.ad 32+zae h.cd 16+h.code.toNat
def zdy (h:HdD):Bool:=decide (h.op≤15∧h.code≤15)
def zcd (e:EdD):Bool:=decide (e.size=0∧e.ext=0∧e.ver=0∧e.flags=0)&&e.opts.isEmpty
def zac (r:RecD):Bool:=decide (r.typ≠41)&&may r.name&&rmay r.typ r.data
def zcj (m:MsgD):Bool:=
 zdy m.hd&&(m.he||zcd m.ed)&&decide (m.qs.length≤65535∧m.ans.length≤65535∧m.auth.length≤65535∧m.extra.length+(if m.he then 1 else 0)≤65535)&&
 m.qs.all (fun q=>may q.name)&&m.ans.all zac&&m.auth.all zac&&m.extra.all zac
def zfp (m:MsgD):List UInt8:=two m.hd.id.toNat++two (zcf m.hd)++two m.qs.length++two m.ans.length++two m.auth.length++two (m.extra.length+if m.he then 1 else 0)
def quW (pos:Nat) (q:QD) (t:Tab):List UInt8×Tab:=((putN true true pos q.name t).1++(two q.typ.toNat++two q.cls.toNat),(putN true true pos q.name t).2)
def zb9 (pos:Nat) (r:RecD) (t:Tab):List UInt8×Tab:=
 let a:=putN true true pos r.name t
 let f:=two r.typ.toNat++two r.cls.toNat++zdp r.ttl.toNat
 let d:=zdo (pos+a.1.length+10) r.typ r.data a.2
 (a.1++f++two d.1.length++d.1,d.2)
def zaj {α:Type} (f:Nat→α→Tab→List UInt8×Tab):Nat→List α→Tab→List UInt8×Tab
 |_,[],t=>([],t)
 |pos,x::l,t=>((f pos x t).1++(zaj f (pos+(f pos x t).1.length) l (f pos x t).2).1,(zaj f (pos+(f pos x t).1.length) l (f pos x t).2).2)
theorem zfo {α:Type} (f:Nat→α→Tab→List UInt8×Tab):∀(pos:Nat) (a b:List α) (t:Tab),
 zaj f pos (a++b) t=((zaj f pos a t).1++(zaj f (pos+(zaj f pos a t).1.length) b (zaj f pos a t).2).1,(zaj f (pos+(zaj f pos a t).1.length) b (zaj f pos a t).2).2)
 |pos,[],b,t=>by simp[zaj]
 |pos,x::a,b,t=>by
  simp only[List.cons_append,zaj];rw[zfo f _ a b _];simp[Nat.add_assoc]
def zfy (e:EdD):List UInt8:=e.opts.flatMap fun o=>two o.code.toNat++two o.data.length++o.data
def zd3 (e:EdD):Nat:=e.ext.toNat*16777216+e.ver.toNat*65536+e.flags.toNat
def zhr (e:EdD):List UInt8:=[0]++two 41++two e.size.toNat++zdp (zd3 e)++two (zfy e).length++zfy e
def zbf (m:MsgD):List UInt8×Tab:=
 let q:=zaj quW 12 m.qs []
 let r:=zaj zb9 (12+q.1.length) (m.ans++m.auth++m.extra) q.2
 (zfp m++q.1++r.1++(if m.he then zhr m.ed else[]),r.2)
def zau (m:MsgD):Nat:=if zcj m=true then(if 65535<(zbf m).1.length then 5 else 0)else 3
def zec (m:MsgD):List UInt8:=if zau m=0 then(zbf m).1 else[]
def zkc (t:Tab):Prop:=(t.map Prod.fst).Nodup∧∀e∈t,e.1.length≤255∧e.2≤16383
theorem zrt:zkc []:=⟨List.nodup_nil,by simp⟩
theorem zBt {t:Tab} {n:List UInt8} (h:zb6 t n=none):n∉t.map Prod.fst:=by
 unfold zb6 at h;rw[Option.map_eq_none_iff,List.find?_eq_none]at h;intro hm;obtain⟨e,he,rfl⟩:=List.mem_map.1 hm
 exact h e he (by simp)
theorem zru {known:Bool} {n:List UInt8} {pos:Nat} {t:Tab} (h:zkc t) (hn:n.length≤255):zkc (zbs known n pos t):=by
 unfold zbs;split
 ·rename_i hc;refine⟨?_,fun e he=>?_⟩
  ·rw[List.map_append,List.nodup_append];exact⟨h.1,by simp,fun a ha b hb=>by
    simp at hb;subst hb;intro e;subst e;exact zBt hc.2.1 ha⟩
  ·rcases List.mem_append.1 he with hx|hx
   ·exact h.2 e hx
   ·rw[List.mem_singleton]at hx;subst hx;exact⟨hn,hc.2.2⟩
 ·exact h
theorem zug {t:Tab} (h:zkc t) {n:List UInt8}:(zb6 t n).getD 0≤16383:=by
 rcases hf:zb6 t n with _|k
 ·exact Nat.zero_le _
 ·unfold zb6 at hf;rw[Option.map_eq_some_iff]at hf;obtain⟨e,h1,rfl⟩:=hf
  exact(h.2 e (List.mem_of_find?_eq_some h1)).2
def EntryOk (pre s:List UInt8) (p:Nat):Prop:=
 p≤16383∧p<pre.length∧∀(ext:List UInt8) (lim k:Nat) (out:List UInt8),p≤lim→out.length+s.length≤255→zbc (pre++ext) ⟨p,lim,some k,out⟩=(out++s,k,0)
theorem EntryOk.more {pre s:List UInt8} {p:Nat} (h:EntryOk pre s p) (x:List UInt8):EntryOk (pre++x) s p:=
 ⟨h.1,by have:=h.2.1;simp;omega,fun ext lim k out hl ho=>by rw[List.append_assoc];exact h.2.2 (x++ext) lim k out hl ho⟩
theorem zwo {r:List UInt8} (h:(zav (0::r)).isSome=true):r=[]:=by
 rw[zbb,if_pos rfl]at h;by_cases e:r=[]
 ·exact e
 ·rw[if_neg e]at h;simp at h
theorem zqc {b:UInt8} {r:List UInt8} (h0:b≠0) (h:(zav (b::r)).isSome=true):b.toNat<64∧b.toNat<r.length∧(zav (r.drop b.toNat)).isSome=true:=by
 rw[zbb,if_neg h0]at h;by_cases h1:63<b.toNat
 ·rw[if_pos h1]at h;simp at h
 ·rw[if_neg h1,Option.isSome_map]at h;refine⟨by omega,?_,h⟩
  rcases Nat.lt_or_ge b.toNat r.length with h2|h2
  ·exact h2
  ·rw[List.drop_of_length_le h2]at h;simp[zbx]at h
def zbj (msg:List UInt8) (pos:Nat):Except Nat (List UInt8×Nat):=if(readN msg pos).2.2=0 then .ok ((readN msg pos).1,(readN msg pos).2.1)else .error (readN msg pos).2.2
def zal (k:Nat) (msg:List UInt8) (pos:Nat):Except Nat (Nat×Nat):=if msg.length<pos+k then .error 4 else .ok (be ((msg.drop pos).take k),pos+k)
def quR (msg:List UInt8) (pos:Nat):Except Nat (QD×Nat):=
 match zbj msg pos with
 | .error e=>.error e
 | .ok (n,p)=>match zal 2 msg p with
   | .error e=>.error e
   | .ok (t,p)=>match zal 2 msg p with
     | .error e=>.error e
     | .ok (c,p)=>.ok (⟨n,t,c⟩,p)
def zbt (msg:List UInt8):Nat→Nat→Except Nat (List QD×Nat)
 |0,pos=>.ok ([],pos)
 |k+1,pos=>match quR msg pos with
  | .error e=>.error e
  | .ok (q,p)=>match zbt msg k p with
    | .error e=>.error e
    | .ok (l,p)=>.ok (q::l,p)
def zdm:Nat→List UInt8→Except Nat (List OpD)
 |0,_=>.ok []
 |n+1,d=>
  if d=[]then .ok []
  else if d.length<4 then .error 4
  else if d.length<4+be ((d.drop 2).take 2)then .error 4
  else match zdm n (d.drop (4+be ((d.drop 2).take 2)))with
   | .error e=>.error e
   | .ok l=>.ok (⟨be (d.take 2),(d.drop 4).take (be ((d.drop 2).take 2))⟩::l)
def zqa (d:List UInt8):Except Nat (List OpD):=zdm (d.length+1) d
def edR (cls ttl:Nat) (d:List UInt8):Except Nat EdD:=match zqa d with
 | .error e=>.error e
 | .ok l=>.ok ⟨cls,(ttl/16777216:Nat),(ttl/65536%256:Nat),(ttl%65536:Nat),l⟩
def zbd (msg:List UInt8) (more:Bool) (ed:Option EdD) (pos:Nat):Except Nat (Option RecD×Option EdD×Nat):=
 match zbj msg pos with
 | .error e=>.error e
 | .ok (n,p)=>match zal 2 msg p with
   | .error e=>.error e
   | .ok (ty,p)=>match zal 2 msg p with
     | .error e=>.error e
     | .ok (cl,p)=>match zal 4 msg p with
       | .error e=>.error e
       | .ok (tt,p)=>match zal 2 msg p with
         | .error e=>.error e
         | .ok (sz,p)=>
           if msg.length<p+sz then .error 4
           else if ty=41 then
            (if more=false∨ed.isSome=true∨n≠[0]then .error 3
             else match edR cl tt ((msg.drop p).take sz)with
              | .error e=>.error e
              | .ok x=>.ok (none,some x,p+sz))
           else if(splitOf (msg.take (p+sz)) p ty).2=0 then .ok (some ⟨n,ty,cl,tt,textOf (splitOf (msg.take (p+sz)) p ty).1⟩,ed,p+sz)
           else .error (splitOf (msg.take (p+sz)) p ty).2
def zao (msg:List UInt8) (more:Bool):Nat→Option EdD→Nat→Except Nat (List RecD×Option EdD×Nat)
 |0,ed,pos=>.ok ([],ed,pos)
 |k+1,ed,pos=>match zbd msg more ed pos with
  | .error e=>.error e
  | .ok (r,ed,p)=>match zao msg more k ed p with
    | .error e=>.error e
    | .ok (l,ed,p)=>.ok (r.toList++l,ed,p)
def za1 (id n:Nat):HdD:=⟨id,decide (n/32768=1),(n/2048%16:Nat),decide (n/1024%2=1),decide (n/512%2=1),decide (n/256%2=1),decide (n/128%2=1),decide (n/64%2=1),decide (n/32%2=1),decide (n/16%2=1),(n%16:Nat)⟩
def za8:EdD:=⟨0,0,0,0,[]⟩
def n16 (msg:List UInt8) (at_:Nat):Nat:=be ((msg.drop at_).take 2)
def zbi (msg:List UInt8):Except Nat (MsgD×Nat):=
 match zbt msg (n16 msg 4) 12 with
 | .error e=>.error e
 | .ok (qs,p)=>match zao msg false (n16 msg 6) none p with
   | .error e=>.error e
   | .ok (a,e1,p)=>match zao msg false (n16 msg 8) e1 p with
     | .error e=>.error e
     | .ok (u,e2,p)=>match zao msg true (n16 msg 10) e2 p with
       | .error e=>.error e
       | .ok (x,e3,p)=>.ok (⟨za1 (n16 msg 0) (n16 msg 2),qs,a,u,x,e3.isSome,e3.getD za8⟩,p)
def zct (msg:List UInt8):Except Nat MsgD:=
 if 65535<msg.length then .error 5
 else if msg.length<12 then .error 4
 else match zbi msg with
  | .error e=>.error e
  | .ok (m,p)=>if p<msg.length then .error 5 else if zau m=0 then .ok m else .error (zau m)
def At (msg:List UInt8) (pos:Nat) (x:List UInt8):Prop:=pos+x.length≤msg.length∧(msg.drop pos).take x.length=x
theorem At.take {msg x:List UInt8} {pos:Nat} (h:At msg pos x):msg.take (pos+x.length)=msg.take pos++x:=by
 rw[List.take_add,h.2]
theorem At.all {msg x:List UInt8} {pos:Nat} (h:At msg pos x):msg.take pos++x++msg.drop (pos+x.length)=msg:=by
 rw[←h.take,List.take_append_drop]
theorem At.left {msg x y:List UInt8} {pos:Nat} (h:At msg pos (x++y)):At msg pos x:=by
 obtain⟨h1,h2⟩:=h
 rw[Z6]at h1 h2;refine⟨by omega,?_⟩
 have:=congrArg (List.take x.length) h2
 rw[List.take_take,Nat.min_eq_left (by omega),List.take_left]at this
 exact this
theorem At.right {msg x y:List UInt8} {pos:Nat} (h:At msg pos (x++y)):At msg (pos+x.length) y:=by
 obtain⟨h1,h2⟩:=h
 rw[Z6]at h1 h2;refine⟨by omega,?_⟩
 have:=congrArg (List.drop x.length) h2
 rw[List.drop_take,List.drop_drop,List.drop_left]at this;rw[show x.length+y.length - x.length=y.length by omega]at this
 exact this
theorem At.nil (msg:List UInt8) {pos:Nat} (h:pos≤msg.length):At msg pos []:=⟨by simpa using h,by simp⟩
theorem zDx {c:Chk} (h:c.kind=1) (msg:List UInt8) (pos:Nat):zaa c msg pos=if(readN msg pos).2.2≠0 then(Pc.zero,(readN msg pos).2.2)else(⟨(readN msg pos).1,true,(readN msg pos).2.1⟩,0):=by
 obtain⟨k,n⟩:=c;dsimp only at h;subst h;rfl
def pcT (p:Pc):List UInt8×Bool:=(p.text,p.nm)
theorem zFi:(fun p:Pc=>(p.text,p.nm))=pcT:=rfl
theorem zvn {k:Int} {d:List UInt8} (h:rmay k d=true):k≠41∧zab (checksOf k) d 0=(partsOf k d,0)∧textOf (partsOf k d)=d:=by
 unfold rmay zbk at h;unfold partsOf zbk;split at h
 ·rename_i hc;rw[if_pos hc,Option.getD_some];obtain⟨h1,h2⟩:=hc
  unfold splitOf at h1 h2 ⊢;by_cases hk:k=41
  ·rw[if_pos hk]at h1;cases h1
  ·rw[if_neg hk]at h1 h2;rw[if_neg hk];exact⟨hk,Prod.ext rfl h1,h2⟩
 ·cases h
def QD.wf (q:QD):Prop:=(0≤q.typ∧q.typ≤65535)∧(0≤q.cls∧q.cls≤65535)
def RecD.wf (r:RecD):Prop:=(0≤r.typ∧r.typ≤65535)∧(0≤r.cls∧r.cls≤65535)∧(0≤r.ttl∧r.ttl≤4294967295)
structure MsgD.wf (m:MsgD):Prop where
 id:0≤m.hd.id∧m.hd.id≤65535
 op:0≤m.hd.op
 code:0≤m.hd.code
 qs:∀q∈m.qs,q.wf
 ans:∀r∈m.ans,r.wf
 auth:∀r∈m.auth,r.wf
 extra:∀r∈m.extra,r.wf
 size:0≤m.ed.size∧m.ed.size≤65535
 ext:0≤m.ed.ext∧m.ed.ext≤255
 ver:0≤m.ed.ver∧m.ed.ver≤255
 flags:0≤m.ed.flags∧m.ed.flags≤65535
 opts:∀o∈m.ed.opts,0≤o.code∧o.code≤65535
theorem zc0 (b:Bool) (k:Nat):∃v,v≤1∧zae b k=v*k∧decide (v=1)=b:=by
 cases b
 ·exact⟨0,by omega,by simp[zae],rfl⟩
 ·exact⟨1,by omega,by simp[zae],rfl⟩
theorem zt1 {h:HdD} (h1:0≤h.op) (h2:0≤h.code) (ho:zdy h=true):zcf h<65536:=by
 unfold zdy at ho;rw[decide_eq_true_eq]at ho;unfold zcf;obtain⟨a1,a2,a3,_⟩:=zc0 h.qr 32768
 obtain⟨b1,b2,b3,_⟩:=zc0 h.aa 1024
 obtain⟨c1,c2,c3,_⟩:=zc0 h.tc 512
 obtain⟨d1,d2,d3,_⟩:=zc0 h.rd 256
 obtain⟨e1,e2,e3,_⟩:=zc0 h.ra 128
 obtain⟨f1,f2,f3,_⟩:=zc0 h.z 64
 obtain⟨g1,g2,g3,_⟩:=zc0 h.ad 32
 obtain⟨i1,i2,i3,_⟩:=zc0 h.cd 16
 rw[a3,b3,c3,d3,e3,f3,g3,i3];omega
theorem zsj (d:List UInt8) (p:Nat):be ((d.drop p).take 2)<65536:=by
 have h:=zop ((d.drop p).take 2)
 have:256^((d.drop p).take 2).length≤256^2:=Nat.pow_le_pow_right (by omega) (by rw[List.length_take];omega)
 omega
theorem zdl (d:List UInt8) (p:Nat):n16 d p<65536:=zsj d p
theorem zck {msg:List UInt8} {pos v p:Nat} (h:zal 2 msg pos=.ok (v,p)):v<65536:=by
 unfold zal at h;split at h
 ·cases h
 ·injection h with h;injection h with h1 h2
  subst h1;exact zsj msg pos
theorem zo6 {msg:List UInt8} {pos v p:Nat} (h:zal 4 msg pos=.ok (v,p)):v<4294967296:=by
 unfold zal at h;split at h
 ·cases h
 ·injection h with h;injection h with h1 h2
  subst h1;have h:=zop ((msg.drop pos).take 4)
  have:256^((msg.drop pos).take 4).length≤256^4:=Nat.pow_le_pow_right (by omega) (by rw[List.length_take];omega)
  omega
theorem zGg {msg:List UInt8} {pos p:Nat} {q:QD} (h:quR msg pos=.ok (q,p)):q.wf:=by
 unfold quR at h;split at h
 ·cases h
 ·split at h
  ·cases h
  ·rename_i h1;split at h
   ·cases h
   ·rename_i h2;injection h with h;injection h with h3 h4
    have:=zck h1
    have:=zck h2
    subst h3;exact⟨⟨by simp,by simp;omega⟩,by simp,by simp;omega⟩
theorem zwu {msg:List UInt8}:∀{k pos p:Nat} {l:List QD},zbt msg k pos=.ok (l,p)→(∀q∈l,q.wf)∧l.length=k
 |0,pos,p,l,h=>by
  unfold zbt at h;injection h with h;injection h with h1 h2
  subst h1;simp
 |k+1,pos,p,l,h=>by
  unfold zbt at h;split at h
  ·cases h
  ·rename_i h1;split at h
   ·cases h
   ·rename_i h2;injection h with h;injection h with h3 h4
    obtain⟨i1,i2⟩:=zwu h2
    subst h3;refine⟨fun q hq=>?_,by simp[i2]⟩
    rcases List.mem_cons.1 hq with rfl|hq
    ·exact zGg h1
    ·exact i1 q hq
structure EdD.wf (e:EdD):Prop where
 size:0≤e.size∧e.size≤65535
 ext:0≤e.ext∧e.ext≤255
 ver:0≤e.ver∧e.ver≤255
 flags:0≤e.flags∧e.flags≤65535
 opts:∀o∈e.opts,0≤o.code∧o.code≤65535
theorem zwl:∀(n:Nat) (d:List UInt8) (l:List OpD),zdm n d=.ok l→∀o∈l,0≤o.code∧o.code≤65535
 |0,d,l,h=>by
  unfold zdm at h;injection h with h;subst h;simp
 |n+1,d,l,h=>by
  unfold zdm at h;split at h
  ·injection h with h;subst h;simp
  ·split at h
   ·cases h
   ·split at h
    ·cases h
    ·split at h
     ·cases h
     ·rename_i h1;injection h with h
      subst h;intro o ho;rcases List.mem_cons.1 ho with rfl|ho
      ·have:=zsj d 0
       rw[List.drop_zero]at this;exact⟨by simp,by simp;omega⟩
      ·exact zwl n _ _ h1 o ho
theorem zG4 {cls ttl:Nat} {d:List UInt8} {e:EdD} (h:edR cls ttl d=.ok e) (hc:cls<65536) (ht:ttl<4294967296):e.wf:=by
 unfold edR at h;split at h
 ·cases h
 ·rename_i h1;injection h with h
  subst h;exact⟨⟨by simp,by simp;omega⟩,⟨by dsimp only;omega,by dsimp only;omega⟩,⟨by dsimp only;omega,by dsimp only;omega⟩,⟨by dsimp only;omega,by dsimp only;omega⟩,zwl _ _ _ h1⟩
theorem zFn {msg:List UInt8} {more:Bool} {ed ed':Option EdD} {pos p:Nat} {r:Option RecD} (h:zbd msg more ed pos=.ok (r,ed',p)) (he:∀e,ed=some e→e.wf):
 (∀x,r=some x→x.wf)∧(∀e,ed'=some e→e.wf):=by
 unfold zbd at h;split at h
 ·cases h
 split at h
 ·cases h
 rename_i h1;split at h
 ·cases h
 rename_i h2;split at h
 ·cases h
 rename_i h3;split at h
 ·cases h
 have k1:=zck h1
 have k2:=zck h2
 have k3:=zo6 h3
 split at h
 ·cases h
 split at h
 ·split at h
  ·cases h
  split at h
  ·cases h
  rename_i h5;injection h with h;injection h with e1 e2;injection e2 with e2 e3
  subst e1 e2;refine⟨by simp,fun e hx=>?_⟩
  injection hx with hx
  subst hx;exact zG4 h5 k2 k3
 ·split at h
  ·injection h with h;injection h with e1 e2;injection e2 with e2 e3
   subst e1 e2;refine⟨fun x hx=>?_,he⟩
   injection hx with hx
   subst hx;exact⟨⟨by simp,by simp;omega⟩,⟨by simp,by simp;omega⟩,by simp,by simp;omega⟩
  ·cases h
theorem zl0 {msg:List UInt8} {more:Bool}:∀{k:Nat} {ed ed':Option EdD} {pos p:Nat} {l:List RecD},zao msg more k ed pos=.ok (l,ed',p)→(∀e,ed=some e→e.wf)→
 (∀x∈l,x.wf)∧(∀e,ed'=some e→e.wf)
 |0,ed,ed',pos,p,l,h,he=>by
  unfold zao at h;injection h with h;injection h with e1 e2;injection e2 with e2 e3
  subst e1 e2;exact⟨by simp,he⟩
 |k+1,ed,ed',pos,p,l,h,he=>by
  unfold zao at h;split at h
  ·cases h
  rename_i h1;split at h
  ·cases h
  rename_i h2;injection h with h;injection h with e1 e2;injection e2 with e2 e3
  subst e1 e2;obtain⟨a1,a2⟩:=zFn h1 he
  obtain⟨b1,b2⟩:=zl0 h2 a2
  refine⟨fun x hx=>?_,b2⟩
  rcases List.mem_append.1 hx with hx|hx
  ·rw[Option.mem_toList]at hx;exact a1 x hx
  ·exact b1 x hx
theorem znz {msg:List UInt8} {m:MsgD} {p:Nat} (h:zbi msg=.ok (m,p)):m.wf∧m.hd=za1 (n16 msg 0) (n16 msg 2)∧(m.he=false→m.ed=za8):=by
 unfold zbi at h;split at h
 ·cases h
 rename_i h1;split at h
 ·cases h
 rename_i h2;split at h
 ·cases h
 rename_i h3;split at h
 ·cases h
 rename_i e3 p' h4;injection h with h;injection h with e1 e2
 obtain⟨q1,q2⟩:=zwu h1
 obtain⟨a1,a2⟩:=zl0 h2 (by simp)
 obtain⟨b1,b2⟩:=zl0 h3 a2
 obtain⟨c1,c2⟩:=zl0 h4 b2
 have te:(e3.getD za8).wf:=by
  rcases hx:e3 with _|e
  ·exact⟨⟨by decide,by decide⟩,⟨by decide,by decide⟩,⟨by decide,by decide⟩,⟨by decide,by decide⟩,by simp[za8]⟩
  ·exact c2 e hx
 have:=zdl msg 0
 have:=zdl msg 2
 subst e1;refine⟨⟨⟨?_,?_⟩,?_,?_,q1,a1,b1,c1,te.size,te.ext,te.ver,te.flags,te.opts⟩,rfl,fun hf=>?_⟩
 ·simp[za1]
 ·simp[za1];omega
 ·simp[za1];omega
 ·simp[za1];omega
 ·dsimp only at hf ⊢;rcases e3 with _|e
  ·rfl
  ·simp at hf
theorem zmq {d:List UInt8} {m:MsgD} (h:zct d=.ok m):m.wf∧zau m=0∧m.hd=za1 (n16 d 0) (n16 d 2)∧(m.he=false→m.ed=za8)∧12≤d.length∧d.length≤65535:=by
 unfold zct at h;split at h
 ·cases h
 split at h
 ·cases h
 split at h
 ·cases h
 rename_i h1;split at h
 ·cases h
 split at h
 ·rename_i h2;injection h with h
  subst h;obtain⟨a,b,c⟩:=znz h1
  exact⟨a,h2,b,c,by omega,by omega⟩
 ·cases h
theorem zEy {m:MsgD} (h:zau m=0):zcj m=true∧(zbf m).1.length≤65535∧zec m=(zbf m).1:=by
 have h':=h
 unfold zau at h';split at h'
 ·rename_i h1;split at h'
  ·cases h'
  ·exact⟨h1,by omega,by unfold zec;rw[if_pos h]⟩
 ·cases h'
structure CameD where
 kind:Int
 code:Int
 hd:HdD
 hasQ:Bool
 q:QD
 hasE:Bool
 size:Int
def zEl (c:CameD) (code size:Int):MsgD:=
 ⟨⟨c.hd.id,true,c.hd.op,false,false,c.hd.rd,true,false,false,c.hd.cd,code%4096%16⟩,if c.hasQ=true then[c.q]else[],[],[],[],c.hasE,if c.hasE=true then⟨size%65536,code%4096/16,0,0,[]⟩else za8⟩
def zGk (c:CameD) (most:Int):Int:=if c.hasE=true∧512<c.size∧512<most then min c.size most else 512
structure CameD.wf (c:CameD):Prop where
 id:0≤c.hd.id∧c.hd.id≤65535
 op:0≤c.hd.op∧c.hd.op≤255
 q:c.q.wf
theorem zoa (cmp known:Bool):∀(f pos:Nat) (n:List UInt8) (t:Tab),n.length<f→(zav n).isSome=true→(ze1 cmp known f pos n t).1.length≤n.length
 |0,_,_,_,h,_=>absurd h (by omega)
 |f+1,pos,[],t,_,_=>by simp[ze1]
 |f+1,pos,b::r,t,hf,hp=>by
  by_cases h0:b=0
  ·subst h0;simp[ze1]
  ·obtain⟨hb,hl,de⟩:=zqc h0 hp
   have JK:b.toNat≠0:=fun e=>h0 (UInt8.toNat_inj.1 (by simpa using e))
   simp only[List.length_cons]at hf ⊢;simp only[ze1];rw[if_neg h0];split
   ·simp only[zo8];omega
   ·have:=zoa cmp known f (pos+(1+b.toNat)) (r.drop b.toNat) (zbs known (b::r) pos t) (by rw[List.length_drop];omega) de
    rw[List.length_drop]at this;simp only[Z6,List.length_cons,List.length_take];omega
theorem zgt (cmp known:Bool) (pos:Nat) {n:List UInt8} (t:Tab) (h:may n=true):(putN cmp known pos n t).1.length≤255:=by
 have:=zoa cmp known (n.length+1) pos n t (by omega) (zhe h)
 have:=zek h
 unfold putN;omega
theorem zt4 (m:MsgD):(zfp m).length=12:=by simp[zfp,zah]
end Go.Proofs.YtdnpmapelmjfpaaGreatDoor
