/- Lemmas of this claim. No condition. -/
import Derived.Test.YtdnpmapelmjfpaaGreatDoorLka
import Derived.Test.YtdnpmapelmjfpaaGreatDoorLfw4
import Derived.Test.YtdnpmapelmjfpaaGreatDoorLrl
import Derived.Deep.CutBlock
set_option maxHeartbeats 32000000
set_option maxRecDepth 100000
namespace Go.Proofs.YtdnpmapelmjfpaaGreatDoor
abbrev Ls:=List RecD×List RecD×List RecD
def zd6 (sec:Nat) (x:List RecD) (L:Ls):Ls:=match sec with
 |1=>(L.1++x,L.2.1,L.2.2)
 |2=>(L.1,L.2.1++x,L.2.2)
 |_=>(L.1,L.2.1,L.2.2++x)
theorem znv (sec:Nat) (L:Ls):zd6 sec [] L=L:=by
 unfold zd6;split<;>simp
theorem zea (sec:Nat) (x y:List RecD) (L:Ls):zd6 sec y (zd6 sec x L)=zd6 sec (x++y) L:=by
 unfold zd6;split<;>simp
def zxl (d:List UInt8) (qs:List QD) (L:Ls) (ed:Option EdD) (p:Nat):Except Nat (MsgD×Nat):=.ok (⟨za1 (n16 d 0) (n16 d 2),qs,L.1,L.2.1,L.2.2,ed.isSome,ed.getD za8⟩,p)
def zq5 (d:List UInt8) (qs:List QD) (k:Nat) (L:Ls) (ed:Option EdD) (p:Nat):Except Nat (MsgD×Nat):=match zao d true k ed p with
 | .error e=>.error e
 | .ok (x,e,q)=>zxl d qs (zd6 3 x L) e q
def zq4 (d:List UInt8) (qs:List QD) (k:Nat) (L:Ls) (ed:Option EdD) (p:Nat):Except Nat (MsgD×Nat):=match zao d false k ed p with
 | .error e=>.error e
 | .ok (x,e,q)=>zq5 d qs (n16 d 10) (zd6 2 x L) e q
def ztd (d:List UInt8) (qs:List QD) (k:Nat) (L:Ls) (ed:Option EdD) (p:Nat):Except Nat (MsgD×Nat):=match zao d false k ed p with
 | .error e=>.error e
 | .ok (x,e,q)=>zq4 d qs (n16 d 8) (zd6 1 x L) e q
def zdj (sec:Nat) (d:List UInt8) (qs:List QD) (k:Nat) (L:Ls) (ed:Option EdD) (p:Nat):Except Nat (MsgD×Nat):=match sec with
 |1=>ztd d qs k L ed p
 |2=>zq4 d qs k L ed p
 |3=>zq5 d qs k L ed p
 |_=>zxl d qs L ed p
theorem zC9 {d:List UInt8} {qs:List QD} {p:Nat} (h:zbt d (n16 d 4) 12=.ok (qs,p)):zbi d=zdj 1 d qs (n16 d 6) ([],[],[]) none p:=by
 unfold zbi zdj ztd;rw[h];dsimp only;rcases zao d false (n16 d 6) none p with e|⟨a,e1,p1⟩
 ·rfl
 ·dsimp only[zd6,List.nil_append];unfold zq4;rcases zao d false (n16 d 8) e1 p1 with e|⟨u,e2,p2⟩
  ·rfl
  ·dsimp only[zd6,List.nil_append];unfold zq5;rcases zao d true (n16 d 10) e2 p2 with e|⟨x,e3,p3⟩
   ·rfl
   ·rfl
theorem zAb (d:List UInt8) (qs:List QD) (L:Ls) (ed:Option EdD) (p:Nat):zdj 1 d qs 0 L ed p=zdj 2 d qs (n16 d 8) L ed p:=by
 simp[zdj,ztd,zao,zd6]
theorem zAc (d:List UInt8) (qs:List QD) (L:Ls) (ed:Option EdD) (p:Nat):zdj 2 d qs 0 L ed p=zdj 3 d qs (n16 d 10) L ed p:=by
 simp[zdj,zq4,zao,zd6]
theorem zAd (d:List UInt8) (qs:List QD) (L:Ls) (ed:Option EdD) (p:Nat):zdj 3 d qs 0 L ed p=zxl d qs L ed p:=by
 simp[zdj,zq5,zao,zd6]
theorem zgq {d:List UInt8} {qs:List QD} {k sec p p':Nat} {L:Ls} {ed ed':Option EdD} {r:Option RecD} (hs:sec=1∨sec=2∨sec=3) (h:zbd d (decide (sec=3)) ed p=.ok (r,ed',p')):
 zdj sec d qs (k+1) L ed p=zdj sec d qs k (zd6 sec r.toList L) ed' p':=by
 rcases hs with rfl|rfl|rfl
 ·have h:zbd d false ed p=.ok (r,ed',p'):=h
  unfold zdj ztd;simp only[zao,h];rcases zao d false k ed' p' with e|⟨x,e,q⟩
  ·rfl
  ·dsimp only;rw[zea]
 ·have h:zbd d false ed p=.ok (r,ed',p'):=h
  unfold zdj zq4;simp only[zao,h];rcases zao d false k ed' p' with e|⟨x,e,q⟩
  ·rfl
  ·dsimp only;rw[zea]
 ·have h:zbd d true ed p=.ok (r,ed',p'):=h
  unfold zdj zq5;simp only[zao,h];rcases zao d true k ed' p' with e|⟨x,e,q⟩
  ·rfl
  ·dsimp only;rw[zea]
theorem zq6 {d:List UInt8} {qs:List QD} {k sec p x:Nat} {L:Ls} {ed:Option EdD} (hs:sec=1∨sec=2∨sec=3) (h:zbd d (decide (sec=3)) ed p=.error x):zdj sec d qs (k+1) L ed p=.error x:=by
 rcases hs with rfl|rfl|rfl
 ·have h:zbd d false ed p=.error x:=h
  unfold zdj ztd;simp only[zao,h]
 ·have h:zbd d false ed p=.error x:=h
  unfold zdj zq4;simp only[zao,h]
 ·have h:zbd d true ed p=.error x:=h
  unfold zdj zq5;simp only[zao,h]
end Go.Proofs.YtdnpmapelmjfpaaGreatDoor
namespace Go.Proofs.YtdnpmapelmjfpaaGreatDoor
open Go.RowKit
abbrev zcu:Array Value:= #[.int .u16 0,.bool false,.int .u8 0,.bool false,.bool false,.bool false,.bool false,.bool false,.bool false,.bool false,.int .u8 0,.slice none 0 0,.slice none 0 0,.slice none 0 0,.slice none 0 0,.bool false,.int .u16 0,.int .u8 0,.int .u8 0,.int .u16 0,.slice none 0 0]
theorem zx8 (af:HdD):Tryz.prog.built 45 [(0,.agg #[.int .u16 af.id,.bool af.qr,.int .u8 af.op,.bool af.aa,.bool af.tc,.bool af.rd,.bool af.ra,.bool af.z,.bool af.ad,.bool af.cd,.int .u8 af.code])]=some #[.int .u16 af.id,.bool af.qr,.int .u8 af.op,.bool af.aa,.bool af.tc,.bool af.rd,.bool af.ra,.bool af.z,.bool af.ad,.bool af.cd,.int .u8 af.code,.slice none 0 0,.slice none 0 0,.slice none 0 0,.slice none 0 0,.bool false,.int .u16 0,.int .u8 0,.int .u8 0,.int .u16 0,.slice none 0 0]:=by kernel_rfl
theorem zs9 {P:Program} {ops:Array Oper} {rest:List Oper} {o:Oper} {a:Act} {w:World} {Q:Exit→Act→World→Prop} (hg:o.guard=none) (t:TypeId) (parts:Array (Nat×Operand)) (ho:o.op=.build t parts)
 (vs:List (Nat×Value)) (hv:(parts.map fun(i,x)=>(i,a.eval x)).toList=vs) (cells:Array Value) (hc:P.built t vs=some cells) (dst:Option Tmp) (hd:o.dst=dst)
 (h:wpList P ops Q rest (a.put dst (.agg cells)) w):wpList P ops Q (o::rest) a w:=by
 subst hd;exact wpList_build hg t parts ho (by rw[hv,hc];rfl) (by rw[hv,hc];exact h)
def zsf (d:List UInt8) (w:World) (e:Ending) (w':World):Prop:=
 ((∃(k x:Nat),k≠0∧zct d=.error x∧e=.returned (.tuple #[.agg zcu,.int .i64 (k:Int)]))∨(∃m q a u x o,zct d=.ok m∧e=.returned (.tuple #[zfd m.hd q a u x m.he m.ed o,.int .i64 0])∧MsgO w' w.heap.size m q a u x o∧MsgBd m))∧Ext w w'
theorem zzz (c0 c1 c2 c3 c4:Value):Instr.fill (fun i=>some (i*5,5)) ((Array.range (1*5)).map ((Value.agg #[.string ⟨#[]⟩,.int .u16 0,.int .u16 0,.int .u32 0,.string ⟨#[]⟩]).cells[·%(Value.agg #[.string ⟨#[]⟩,.int .u16 0,.int .u16 0,.int .u32 0,.string ⟨#[]⟩]).cells.size]!)) [(0,.agg #[c0,c1,c2,c3,c4])]=some #[c0,c1,c2,c3,c4]:=by kernel_rfl
theorem zjo {ops:Array Oper} {rest:List Oper} {o:Oper} {a:Act} {w:World} {Q:Exit→Act→World→Prop} (hg:o.guard=none) (x:Operand) (ho:o.op=.buildSlice 40 1 #[(0,x)]) (dst:Option Tmp) (hd:o.dst=dst)
 (c0 c1 c2 c3 c4:Value) (hx:a.eval x=.agg #[c0,c1,c2,c3,c4])
 (h:wpList Tryz.prog ops Q rest (a.put dst (.slice (some ⟨w.heap.size,0,none⟩) 1 1)) (w.alloc (.cells #[c0,c1,c2,c3,c4] 99))):wpList Tryz.prog ops Q (o::rest) a w:=by
 subst hd;obtain⟨i0,aH,aF,aC,ft⟩:=info_parts zlt
 refine Go.wpList_buildSlice hg 40 99 1 #[(0,x)] ho #[c0,c1,c2,c3,c4] i0 _ Tryz.underlying40 aH aF (by rw[aC];decide) (by rw[aC];decide) ?_ h
 rw[aC];simp only[List.map_toArray,List.map_cons,List.map_nil,hx];exact zzz c0 c1 c2 c3 c4
structure QIn (Y:World) (g pp:Nat) (af:HdD) (d:List UInt8) (R:Except Nat (List QD×Nat)) (n k:Nat) (l:List QD) (A:Option Addr) (c:Nat) (s:Nat×Nat) (wr:World):Prop where
 kn:k≤n
 ll:l.length≤k
 go:GoP g g pp (zbw af (.slice A l.length c) (.slice none 0 0) (.slice none 0 0) (.slice none 0 0) false za8 (.slice none 0 0)) s Y wr
 own:Own wr Y.heap.size 32 3 A l.length c (l.flatMap zcq)
 eq:(s.2=0∧s.1≤d.length∧R=zfr l (zbt d (n - k) s.1))∨(s.2≠0∧∃y,R=.error y)
def DS (l2 sec:Nat) (d:List UInt8) (qs:List QD) (k:Nat) (L:Ls) (s:Nat×Nat) (he:Bool) (e:EdD) (o:Value) (wr:World):Prop:=
 (s.2=0∧s.1≤d.length∧∃ed:Option EdD,zbi d=zdj sec d qs k L ed s.1∧he=ed.isSome∧e=ed.getD za8∧OptsT wr l2 o e.opts)∨(s.2≠0∧∃y,zbi d=.error y)
theorem DS.map {l2 sec k:Nat} {d:List UInt8} {qs:List QD} {L:Ls} {s:Nat×Nat} {he:Bool} {e:EdD} {o:Value} {wr wr':World} (h:DS l2 sec d qs k L s he e o wr) (f:OptsT wr l2 o e.opts→OptsT wr' l2 o e.opts):DS l2 sec d qs k L s he e o wr':=by
 rcases h with⟨h0,h1,ed,h2,h3,h4,h5⟩|h
 ·exact .inl ⟨h0,h1,ed,h2,h3,h4,f h5⟩
 ·exact .inr h
structure OIn (Y:World) (g pp:Nat) (af:HdD) (d:List UInt8) (q:Value) (qs:List QD) (sec:Nat) (L:Ls) (a u x:Value) (s:Nat×Nat) (he:Bool) (e:EdD) (o:Value) (wr:World):Prop where
 s1:1≤sec∧sec≤4
 go:GoP g g pp (zbw af q a u x he e o) s Y wr
 hq:OQus wr Y.heap.size q qs
 ha:ORec7 wr Y.heap.size a L.1
 hu:ORec7 wr Y.heap.size u L.2.1
 hx:ORec7 wr Y.heap.size x L.2.2
 z1:sec≤1→a=(.slice none 0 0)∧L.1=[]
 z2:sec≤2→u=(.slice none 0 0)∧L.2.1=[]
 z3:sec≤3→x=(.slice none 0 0)∧L.2.2=[]
 ds:DS Y.heap.size sec d qs (n16 d (4+2*sec)) L s he e o wr
structure IIn (Ws:World) (l2 g pp:Nat) (d:List UInt8) (qs:List QD) (sec n i:Nat) (M:Array Value) (L0:Ls) (l:List RecD) (A:Option Addr) (c:Nat) (s:Nat×Nat) (he:Bool) (e:EdD) (o:Value) (wr:World):Prop where
 kn:i≤n
 ll:l.length≤i
 go:GoP g g pp M s Ws wr
 own:Own wr Ws.heap.size 99 5 A l.length c (l.flatMap zaq)
 ds:DS l2 sec d qs (n - i) (zd6 sec l L0) s he e o wr
theorem zx7 {d:List UInt8} {m:MsgD} {p:Nat} (hd:d.length≤16384) (h:zbi d=.ok (m,p)):MsgBd m∧∀r∈m.ans++m.auth++m.extra,r.data.length≤100000:=by
 rcases h1:zbt d (n16 d 4) 12 with e|⟨qs,p0⟩
 ·rw[zib h1]at h;cases h
 rcases h2:zao d false (n16 d 6) none p0 with e|⟨a,e1,p1⟩
 ·rw[zsl h1 h2]at h;cases h
 rcases h3:zao d false (n16 d 8) e1 p1 with e|⟨u,e2,p2⟩
 ·rw[zsm h1 h2 h3]at h;cases h
 rcases h4:zao d true (n16 d 10) e2 p2 with e|⟨x,e3,p3⟩
 ·rw[zsn h1 h2 h3 h4]at h;cases h
 rw[zso h1 h2 h3 h4]at h;injection h with h;injection h with h _
 subst h;have b1:=zqe h1
 have b2:=zh3 hd h2
 have b3:=zh3 hd h3
 have b4:=zh3 hd h4
 have b5:=zfz (by omega) h4
 have n10:=zdl d 10
 refine⟨⟨fun q hq=>Z2 (b1 q hq) (by omega),fun r hr=>⟨Z2 (b2 r hr).1 (by omega),Z2 (b2 r hr).2 (by omega)⟩,fun r hr=>⟨Z2 (b3 r hr).1 (by omega),Z2 (b3 r hr).2 (by omega)⟩,fun r hr=>⟨Z2 (b4 r hr).1 (by omega),Z2 (b4 r hr).2 (by omega)⟩,Z2 b5.1 (by omega)⟩,fun r hr=>?_⟩
 rcases List.mem_append.1 hr with hr|hr
 ·rcases List.mem_append.1 hr with hr|hr
  ·exact(b2 r hr).2
  ·exact(b3 r hr).2
 ·exact(b4 r hr).2
theorem zve (d:List UInt8) (w:World) (hd:d.length≤16384):
 Calls Tryz.prog 54 #[S d] w (zsf d w):=by
 obtain⟨X0,ar⟩:∃X0,X0=w.alloc (.cells #[.int .u16 0,.bool false,.int .u8 0,.bool false,.bool false,.bool false,.bool false,.bool false,.bool false,.bool false,.int .u8 0,.slice none 0 0,.slice none 0 0,.slice none 0 0,.slice none 0 0,.bool false,.int .u16 0,.int .u8 0,.int .u8 0,.int .u16 0,.slice none 0 0] 45):=⟨_,rfl⟩
 have aP:Ext w X0:=by rw[ar];exact(Z5 _).alloc _
 have r0:X0.heap[w.heap.size]? =some (.cells zcu 45):=by rw[ar];exact heap_alloc_new _ _
 have Dq:¬((65535:Int)<(d.length:Int)):=by omega
 have aT:¬65535<d.length:=by omega
 by_cases aR:d.length<12
 ·have hF:zct d=.error 4:=by unfold zct;rw[if_neg aT,if_pos aR]
  have HR:=Z7 (zu3 d X0 aR)
  have HF:=Z7 hF
  have R0:=Z7 (fun V (hV:Ext X0 V)=>Z8 hV r0)
  clear hF aT aR r0;go_enter Tryz.func54,Tryz.ntmps54;go_upto_region 1 with fail
  rw[←ar];clear ar;go_wp2_with fail;refine HR.out.mono ?_;rintro e w1 ⟨rfl,ae⟩;go_upto_region 5 with fail
  obtain⟨w2,bI⟩:∃w2,w2=(w1.alloc (.cells #[.int .u16 hdZ.id,.bool hdZ.qr,.int .u8 hdZ.op,.bool hdZ.aa,.bool hdZ.tc,.bool hdZ.rd,.bool hdZ.ra,.bool hdZ.z,.bool hdZ.ad,.bool hdZ.cd,.int .u8 hdZ.code] 30)).alloc (.cells #[.int .i64 0,.int .i64 0,.int .i64 0,.int .i64 0] 129):=⟨_,rfl⟩
  have ah:Ext X0 w2:=by rw[bI];exact(ae.alloc _).alloc _
  rw[←bI];clear bI;refine wp_region_lit ?_
  repeat(first
   |(refine Go.wpList_store_rowTo rfl 45 (.tmp 2) (.tmp 27) rfl rfl w.heap.size zcu rfl rfl 45 _ (R0.out _ ah) (by kernel_rfl) rfl (by kernel_rfl) ?_)
   |go_step)
  (try simp only[Exit.inBlock,Exit.then])
  refine bodyPost_ret (zas rfl _ _ w.heap.size _ _ _ _ rfl (setRow_heap w2 w.heap.size _ _ _ _ (R0.out _ ah)) Tryz.underlying45 rfl (by kernel_rfl)) rfl ?_
  exact⟨.inl ⟨4,4,zcp,HF.out,rfl⟩,Below.grown (aP.trans ah) (zak w2 _ _) (aP.trans ah).size (fun k hk=>by injection hk with hk;omega)⟩
 have HR:=Z7 (zB9 d X0 (by omega) (by omega))
 obtain⟨af,ij⟩:∃af,af=za1 (n16 d 0) (n16 d 2):=⟨_,rfl⟩
 rw[←ij]at HR;have AJ:=Z7 ij
 clear ij;go_enter Tryz.func54,Tryz.ntmps54;go_upto_region 1 with fail
 rw[←ar];clear ar;go_wp2_with fail;refine HR.out.mono ?_;rintro e w1 ⟨rfl,ae⟩;clear HR;go_upto_region 6 with fail
 obtain⟨X3,fH⟩:∃X3,X3=(w1.alloc (.cells #[.int .u16 af.id,.bool af.qr,.int .u8 af.op,.bool af.aa,.bool af.tc,.bool af.rd,.bool af.ra,.bool af.z,.bool af.ad,.bool af.cd,.int .u8 af.code] 30)).alloc (.cells #[.int .i64 (n16 d 4:Int),.int .i64 (n16 d 6:Int),.int .i64 (n16 d 8:Int),.int .i64 (n16 d 10:Int)] 129):=⟨_,rfl⟩
 obtain⟨hh,pJ⟩:∃hh,hh=w1.heap.size:=⟨_,rfl⟩
 obtain⟨ch,Cp⟩:∃ch,ch=w1.heap.size+1:=⟨_,rfl⟩
 have rc:X3.heap[ch]? =some (.cells #[.int .i64 (n16 d 4:Int),.int .i64 (n16 d 6:Int),.int .i64 (n16 d 8:Int),.int .i64 (n16 d 10:Int)] 129):=by rw[fH,Cp];exact heap_alloc2_new w1 _ _
 have rh:X3.heap[hh]? =some (.cells (hdC af) 30):=by
  rw[fH,pJ];have h1:=heap_alloc_new w1 (.cells (hdC af) 30)
  rw[heap_alloc_old _ _ (Z9 h1)];exact h1
 have jm:Ext X0 X3:=by rw[fH];exact(ae.alloc _).alloc _
 have IJ:w.heap.size<ch:=by
  have h1:=(Z9 r0)
  have h2:=ae.size
  omega
 rw[←fH,←Cp,←pJ];clear fH Cp pJ ae;obtain⟨X4,bD⟩:∃X4,X4=X3.alloc (.cells #[.int .u16 af.id,.bool af.qr,.int .u8 af.op,.bool af.aa,.bool af.tc,.bool af.rd,.bool af.ra,.bool af.z,.bool af.ad,.bool af.cd,.int .u8 af.code,.slice none 0 0,.slice none 0 0,.slice none 0 0,.slice none 0 0,.bool false,.int .u16 0,.int .u8 0,.int .u8 0,.int .u16 0,.slice none 0 0] 45):=⟨_,rfl⟩
 go_cut [7] (fun s7 wx=>s7=.pointer (some ⟨X3.heap.size,0,none⟩)∧X4=wx)
 case first=>
  as_aux_lemma=>
  have IK:(#[.int .u16 af.id,.bool af.qr,.int .u8 af.op,.bool af.aa,.bool af.tc,.bool af.rd,.bool af.ra,.bool af.z,.bool af.ad,.bool af.cd,.int .u8 af.code,.slice none 0 0,.slice none 0 0,.slice none 0 0,.slice none 0 0,.bool false,.int .u16 0,.int .u8 0,.int .u8 0,.int .u16 0,.slice none 0 0]:Array Value).all (·.oneCell')=true:=by simp[Value.oneCell']
  refine wp_region_lit ?_;refine zaz (by rfl) 30 (.tmp 4) rfl hh rfl 30 #[.int .u16 af.id,.bool af.qr,.int .u8 af.op,.bool af.aa,.bool af.tc,.bool af.rd,.bool af.ra,.bool af.z,.bool af.ad,.bool af.cd,.int .u8 af.code] _ _ rh Tryz.underlying30 rfl (by kernel_rfl) ?_
  refine zs9 rfl 45 _ rfl [(0,.agg #[.int .u16 af.id,.bool af.qr,.int .u8 af.op,.bool af.aa,.bool af.tc,.bool af.rd,.bool af.ra,.bool af.z,.bool af.ad,.bool af.cd,.int .u8 af.code])] (by simp only[List.map_toArray,List.map_cons,List.map_nil];rfl) #[.int .u16 af.id,.bool af.qr,.int .u8 af.op,.bool af.aa,.bool af.tc,.bool af.rd,.bool af.ra,.bool af.z,.bool af.ad,.bool af.cd,.int .u8 af.code,.slice none 0 0,.slice none 0 0,.slice none 0 0,.slice none 0 0,.bool false,.int .u16 0,.int .u8 0,.int .u8 0,.int .u16 0,.slice none 0 0] (zx8 af) (some 30) rfl ?_
  refine Go.Great.wpList_allocTo rfl (some 7) rfl (.pointer (some ⟨X3.heap.size,0,none⟩)) (.cells #[.int .u16 0,.bool false,.int .u8 0,.bool false,.bool false,.bool false,.bool false,.bool false,.bool false,.bool false,.int .u8 0,.slice none 0 0,.slice none 0 0,.slice none 0 0,.slice none 0 0,.bool false,.int .u16 0,.int .u8 0,.int .u8 0,.int .u16 0,.slice none 0 0] 45) (by kernel_rfl) ?_
  refine Go.wpList_store_rowTo rfl 45 (.tmp 7) (.tmp 30) rfl rfl X3.heap.size #[.int .u16 af.id,.bool af.qr,.int .u8 af.op,.bool af.aa,.bool af.tc,.bool af.rd,.bool af.ra,.bool af.z,.bool af.ad,.bool af.cd,.int .u8 af.code,.slice none 0 0,.slice none 0 0,.slice none 0 0,.slice none 0 0,.bool false,.int .u16 0,.int .u8 0,.int .u8 0,.int .u16 0,.slice none 0 0] rfl rfl 45 #[.int .u16 0,.bool false,.int .u8 0,.bool false,.bool false,.bool false,.bool false,.bool false,.bool false,.bool false,.int .u8 0,.slice none 0 0,.slice none 0 0,.slice none 0 0,.slice none 0 0,.bool false,.int .u16 0,.int .u8 0,.int .u8 0,.int .u16 0,.slice none 0 0] (heap_alloc_new _ _) (by kernel_rfl) rfl IK ?_
  rw[zsi X3 #[.int .u16 0,.bool false,.int .u8 0,.bool false,.bool false,.bool false,.bool false,.bool false,.bool false,.bool false,.int .u8 0,.slice none 0 0,.slice none 0 0,.slice none 0 0,.slice none 0 0,.bool false,.int .u16 0,.int .u8 0,.int .u8 0,.int .u16 0,.slice none 0 0] #[.int .u16 af.id,.bool af.qr,.int .u8 af.op,.bool af.aa,.bool af.tc,.bool af.rd,.bool af.ra,.bool af.z,.bool af.ad,.bool af.cd,.int .u8 af.code,.slice none 0 0,.slice none 0 0,.slice none 0 0,.slice none 0 0,.bool false,.int .u16 0,.int .u8 0,.int .u8 0,.int .u16 0,.slice none 0 0] 45 X3.heap.size rfl];refine wpList_nil ?_;go_wp2_with fail;go_meet;exact⟨rfl,bD⟩
 case rest=>
 obtain⟨rfl,rfl⟩:=hcut
 obtain⟨g,nU⟩:∃g,g=X3.heap.size:=⟨_,rfl⟩
 have t4:X4.heap[g]? =some (.cells (zbw af (.slice none 0 0) (.slice none 0 0) (.slice none 0 0) (.slice none 0 0) false za8 (.slice none 0 0)) 45):=by rw[bD,nU];exact heap_alloc_new _ _
 have aO:Ext X3 X4:=by rw[bD];exact(Z5 _).alloc _
 rw[←nU];have qh:ch<g:=by rw[nU];exact(Z9 rc)
 clear bD nU
 go_upto_block 0 with fail
 obtain⟨Y,hY⟩:∃Y,Y=X4.alloc (.cells #[.int .i64 12,.int .i64 0] 195):=⟨_,rfl⟩
 obtain⟨pp,qB⟩:∃pp,pp=X4.heap.size:=⟨_,rfl⟩
 have px:Y.heap[pp]? =some (.cells (zhx (12,0)) 195):=by rw[hY,qB];exact heap_alloc_new _ _
 have sH:Ext X4 Y:=by rw[hY];exact(Z5 _).alloc _
 have oS:Ext X3 Y:=aO.trans sH
 have bx:=Z8 sH t4
 have Kg:g<pp:=by rw[qB];exact(Z9 t4)
 have lf:Ext w Y:=aP.trans (jm.trans oS)
 have rcY:=Z8 oS rc
 have r0Y:=Z8 (jm.trans oS) r0
 have HG:GoP g g pp (zbw af (.slice none 0 0) (.slice none 0 0) (.slice none 0 0) (.slice none 0 0) false za8 (.slice none 0 0)) (12,0) Y Y:=GoP.refl bx px (by omega)
 have eY:g<Y.heap.size∧pp<Y.heap.size:=HG.lt
 have Kh:w.heap.size<g:=by omega
 rw[←hY,←qB];clear hY qB t4 px bx sH oS rc rh jm r0 aO;have gn:d.length≤1048576:=by omega
 have sI:d.length≤65535:=by omega
 have oo:=Z7 (fun V (hV:KeptB g pp Y V)=>hV.row rcY (by omega) (by omega))
 have Dr:=zdl d 4
 have Ga:=zdl d 6
 have AL:=zdl d 8
 have AM:=zdl d 10
 go_cut [] (fun wx=>∃(l:List QD) (A:Option Addr) (c:Nat) (s:Nat×Nat),GoP g g pp (zbw af (.slice A l.length c) (.slice none 0 0) (.slice none 0 0) (.slice none 0 0) false za8 (.slice none 0 0)) s Y wx∧Own wx Y.heap.size 32 3 A l.length c (l.flatMap zcq)∧((s.2=0∧s.1≤d.length∧zbt d (n16 d 4) 12=.ok (l,s.1))∨(s.2≠0∧∃y,zbt d (n16 d 4) 12=.error y)))
 case first=>
  as_aux_lemma=>
  obtain⟨R,hR⟩:∃R,R=zbt d (n16 d 4) 12:=⟨_,rfl⟩
  have HI:=Z7 (show QIn Y g pp af d R (n16 d 4) 0 [] none 0 (12,0) Y from⟨Nat.zero_le _,by simp,HG,Own.nil _ _ _ _,.inl ⟨rfl,by show 12≤d.length;omega,by rw[hR,zr5];rfl⟩⟩)
  obtain⟨i0,aH,aF,aC,ax⟩:=info_parts zwg
  have eC:=Z7 hR
  clear hR HG;go_wp2_with fail
  go_loopw [9] (fun s9 wr=>∃(k:Nat) (l:List QD) (A:Option Addr) (c:Nat) (s:Nat×Nat),s9=.int .i64 k∧QIn Y g pp af d R (n16 d 4) k l A c s wr) (fun s9 _=>n16 d 4 - (intOf s9).toNat)
  case atStart=>exact⟨0,[],none,0,(12,0),rfl,HI.out⟩
  case round=>
   obtain⟨k,l,A,c,s,rfl,hI⟩:=hrel
   obtain⟨wo,rfl⟩:∃wo:World,wo=wr:=⟨_,rfl⟩
   clear HI;have m0:=za0 (j:=0) (oo.out _ hI.go.kept) rfl
   obtain⟨c0,c1,f0,f1⟩:=hI.go.boxes
   obtain⟨p,er⟩:=s
   dsimp only at c0 c1;have vG:=hI.kn
   have fZ:=hI.ll
   by_cases ab:k<n16 d 4
   ·have cz:(k:Int)<(n16 d 4:Int):=by omega
    by_cases aJ:er=0
    ·subst aJ;have cK:p≤d.length∧R=zfr l (zbt d (n16 d 4 - k) p):=by
      rcases hI.eq with⟨_,h1,h2⟩|⟨h0,_⟩
      ·exact⟨h1,h2⟩
      ·exact absurd rfl h0
     obtain⟨hp,iv⟩:=cK
     rw[show n16 d 4 - k=(n16 d 4 - (k+1))+1 by omega]at iv
     have cJ:=Z7 iv
     clear iv;have HQ:=zGh d p
     unfold quS at HQ;obtain⟨nm,s1,e1⟩:∃n s1,zcg d (p,0)=(n,s1):=⟨_,_,rfl⟩
     obtain⟨ty,s2,e2⟩:∃v s,zc9 2 d s1=(v,s):=⟨_,_,rfl⟩
     obtain⟨cl,s3,e3⟩:∃v s,zc9 2 d s2=(v,s):=⟨_,_,rfl⟩
     simp only[e1,e2,e3]at HQ;have o1:okS d s1:=by have:=zm1 (d:=d) (s:=(p,0)) (fun _=>hp);rw[e1]at this;exact this
     have o2:okS d s2:=by have:=zeg (k:=2) o1;rw[e2]at this;exact this
     have o3:okS d s3:=by have:=zeg (k:=2) o2;rw[e3]at this;exact this
     have b1:ty<65536:=by have:=zi6 2 d s1 (by decide);rw[e2]at this;exact Z1 this (by decide)
     have b2:cl<65536:=by have:=zi6 2 d s2 (by decide);rw[e3]at this;exact Z1 this (by decide)
     have C1:=Z7 (fun V hV=>zrj pp (p,0) d V hV gn (fun _=>hp))
     have C2:=Z7 (fun V hV=>zes pp 2 s1 d V hV gn (by decide) o1)
     have C3:=Z7 (fun V hV=>zes pp 2 s2 d V hV gn (by decide) o2)
     rw[e1]at C1;rw[e2]at C2;rw[e3]at C3;dsimp only at C1 C2 C3;have w1:=zpt b1
     have w2:=zpt b2
     have HQ:=Z7 HQ
     have IL:=Z7 o3
     clear e1 e2 e3 o1 o2 o3;have gG:=hI.go.lt
     have IM:=hI.go.kept.1
     go_upto_region 12 with fail
     obtain⟨W3,bK⟩:∃W3,W3=wo.alloc (.cells #[.string ⟨#[]⟩,.int .u16 0,.int .u16 0] 32):=⟨_,rfl⟩
     obtain⟨b,hb⟩:∃b,b=wo.heap.size:=⟨_,rfl⟩
     have r10:W3.heap[b]? =some (.cells #[.string ⟨#[]⟩,.int .u16 0,.int .u16 0] 32):=by rw[bK,hb];exact heap_alloc_new _ _
     have G:GoP g g pp (zbw af (.slice A l.length c) (.slice none 0 0) (.slice none 0 0) (.slice none 0 0) false za8 (.slice none 0 0)) (p,0) wo W3:=by rw[bK];exact(GoP.refl hI.go.box hI.go.prt hI.go.ne).ext ((Z5 _).alloc _) (by omega)
     have dp:wo.heap.size≤b:=by omega
     have jy:b≠g:=by omega
     have iz:b≠pp:=by omega
     rw[←bK,←hb];clear bK hb c0 c1 f0 f1 m0;go_wp2_with fail;refine(C1.out _ G.prt).mono ?_;rintro e v1 ⟨rfl,hs⟩;have r10:=hs.kept.row r10 iz iz
     have G:=G.st hs (by omega)
     clear hs;have cc:=za0 (j:=0) r10 rfl
     have fc:=za3 (j:=0) r10
     go_upto_region 13 with fail
     have G:=G.setNew gG (by omega) dp 0 (S nm)
     have r10:(v1.setCell ⟨b,0,none⟩ (S nm)).heap[b]? =some (.cells #[S nm,.int .u16 0,.int .u16 0] 32):=za2 r10 0 _
     clear cc fc;obtain⟨V1,hV⟩:∃V,V=v1.setCell ⟨b,0,none⟩ (S nm):=⟨_,rfl⟩
     rw[←hV]at G r10 ⊢;clear hV;go_wp2_with fail;refine(C2.out _ G.prt).mono ?_;rintro e v2 ⟨rfl,hs⟩;have r10:=hs.kept.row r10 iz iz
     have G:=G.st hs (by omega)
     clear hs;have cc:=za0 (j:=1) r10 rfl
     have fc:=za3 (j:=1) r10
     go_upto_region 14 with fail
     have G:=G.setNew gG (by omega) dp 1 (.int .u16 (ty:Int))
     have r10:(v2.setCell ⟨b,1,none⟩ (.int .u16 (ty:Int))).heap[b]? =some (.cells #[S nm,.int .u16 (ty:Int),.int .u16 0] 32):=za2 r10 1 _
     clear cc fc;obtain⟨V2,hV⟩:∃V,V=v2.setCell ⟨b,1,none⟩ (.int .u16 (ty:Int)):=⟨_,rfl⟩
     rw[←hV]at G r10 ⊢;clear hV;go_wp2_with fail;refine(C3.out _ G.prt).mono ?_;rintro e v3 ⟨rfl,hs⟩;have r10:=hs.kept.row r10 iz iz
     have G:=G.st hs (by omega)
     clear hs;have cc:=za0 (j:=2) r10 rfl
     have fc:=za3 (j:=2) r10
     go_upto_region 15 with fail
     have G:=G.setNew gG (by omega) dp 2 (.int .u16 (cl:Int))
     have r10:(v3.setCell ⟨b,2,none⟩ (.int .u16 (cl:Int))).heap[b]? =some (.cells #[S nm,.int .u16 (ty:Int),.int .u16 (cl:Int)] 32):=za2 r10 2 _
     clear cc fc;obtain⟨V3,hV⟩:∃V,V=v3.setCell ⟨b,2,none⟩ (.int .u16 (cl:Int)):=⟨_,rfl⟩
     rw[←hV]at G r10 ⊢;clear hV;have y0:=za0 (j:=0) r10 rfl
     have y1:=za0 (j:=1) r10 rfl
     have y2:=za0 (j:=2) r10 rfl
     have z11:=za0 (j:=11) G.box rfl
     have ag:=hI.own.keptB G.kept eY.1 eY.2
     have kN:Y.heap.size≤V3.heap.size:=Z2 IM G.kept.1
     have bZ:=Z7 hI
     clear hI C1 C2 C3;go_wp2_with(first
      |(at_builtin
        refine zad _ rfl (.tmp 61) (.tmp 63) _ rfl Y.heap.size 32 i0 _ 3 24 Tryz.underlying39 aH aF aC ax rfl (by omega) A l.length c (l.flatMap zcq) rfl (ag.ext ((Z5 _).alloc _)) 0 _ 1 1 (zcq ⟨nm,(ty:Int),(cl:Int)⟩) rfl (zaw _ _ (by simp) _ _ 1 3 rfl) (zws _) (by omega) (by omega) (by simp;omega) ?_
        intro A6 c6 w13 aQ dG dT dH;have G13:=((G.ext ((Z5 V3).alloc (.cells (zcq ⟨nm,(ty:Int),(cl:Int)⟩).toArray 32)) (by omega)).more bZ.out.go).grown eY (ag.ext ((Z5 _).alloc _)) dG dT (by omega) (Z4 _)
        have j13:=za0 (j:=11) G13.box rfl
        have f13:=za3 (j:=11) G13.box)
      |fail)
     have G14:=G13.setg 11 (.slice A6 (l.length+1) c6) (Z4 g)
     go_roundw
     case rel=>
      refine⟨k+1,l++[⟨nm,(ty:Int),(cl:Int)⟩],A6,c6,s3,by go_num,⟨by omega,by simp;omega,?_,?_,?_⟩⟩
      ·rw[Z6];exact G14
      ·have:=aQ.set_other (p:=⟨g,11,none⟩) eY.1 (.slice A6 (l.length+1) c6)
       simpa using this
      ·rcases HQ.out with⟨h0,h1⟩|⟨h0,y,h1⟩
       ·exact .inl ⟨h0,IL.out h0,cJ.out.trans (ztw l h1)⟩
       ·exact .inr ⟨h0,y,cJ.out.trans (zmw l h1)⟩
     case measure=>simp[intOf];omega
    ·have f2:((er:Int)==0)=false:=zbm aJ
     have bp:∃y,R=.error y:=by
      rcases hI.eq with⟨h0,_⟩|⟨_,h0⟩
      ·exact absurd h0 aJ
      ·exact h0
     have ig:=Z7 aJ
     clear aJ;go_wp2_with fail;go_meet;exact⟨l,A,c,(p,er),hI.go,hI.own,.inr ⟨ig.out,by rw[←eC.out];exact bp⟩⟩
   ·obtain rfl:k=n16 d 4:=by omega
    have HX:=Z7 (show(er=0∧p≤d.length∧R=.ok (l,p))∨(er≠0∧∃y,R=.error y)by
     rcases hI.eq with⟨h0,h1,h2⟩|h0
     ·refine .inl ⟨h0,h1,?_⟩;rw[h2,Nat.sub_self];simp[zbt,zfr]
     ·exact .inr h0)
    go_wp2_with fail;go_meet;exact⟨l,A,c,(p,er),hI.go,hI.own,by rw[←eC.out];exact HX.out⟩
 case rest=>
 obtain⟨qs,qA,qc,sq,GQ,pZ,Em⟩:=hcut
 obtain⟨Y1,rfl⟩:∃Y1:World,Y1=wc:=⟨_,rfl⟩
 clear HG;have HO:=Z7 (show OIn Y g pp af d (.slice qA qs.length qc) qs 1 ([],[],[]) (.slice none 0 0) (.slice none 0 0) (.slice none 0 0) sq false za8 (.slice none 0 0) Y1 from⟨⟨by omega,by omega⟩,GQ,⟨qA,qc,rfl,pZ⟩,⟨none,0,rfl,Own.nil _ _ _ _⟩,⟨none,0,rfl,Own.nil _ _ _ _⟩,⟨none,0,rfl,Own.nil _ _ _ _⟩,fun _=>⟨rfl,rfl⟩,fun _=>⟨rfl,rfl⟩,fun _=>⟨rfl,rfl⟩,by
  rcases Em with⟨h0,h1,h2⟩|⟨h0,y,h2⟩
  ·exact .inl ⟨h0,h1,none,zC9 h2,rfl,rfl,OptsT.nil _ _⟩
  ·exact .inr ⟨h0,y,zib h2⟩⟩)
 obtain⟨q,pu⟩:∃q,q=Value.slice qA qs.length qc:=⟨_,rfl⟩
 rw[←pu]at HO;clear GQ pZ Em pu;obtain⟨i0,aH,aF,aC,ft⟩:=info_parts zlt
 go_upto_block 2 with fail
 go_cut [] (fun wx=>∃(L:Ls) (a u x:Value) (s:Nat×Nat) (he:Bool) (e:EdD) (o:Value),OIn Y g pp af d q qs 4 L a u x s he e o wx)
 case first=>
  as_aux_lemma=>
  go_wp2_with fail
  go_loopw [11] (fun s11 wr=>∃(sec:Nat) (L:Ls) (a u x:Value) (s:Nat×Nat) (he:Bool) (e:EdD) (o:Value),s11=.int .i64 sec∧OIn Y g pp af d q qs sec L a u x s he e o wr) (fun s11 _=>4 - (intOf s11).toNat)
  case atStart=>exact⟨1,([],[],[]),(.slice none 0 0),(.slice none 0 0),(.slice none 0 0),sq,false,za8,(.slice none 0 0),rfl,HO.out⟩
  case round=>
   obtain⟨sec,L,a,u,x,s,he,e,o,rfl,hO⟩:=hrel
   obtain⟨Ws,rfl⟩:∃Ws:World,Ws=wr:=⟨_,rfl⟩
   clear HO;have oR:sec=1∨sec=2∨sec=3∨sec=4:=by have:=hO.s1;omega
   have dM:=hO.go.lt
   have tB:=hO.go.kept.1
   rcases oR with rfl|rfl|rfl|rfl
   ·obtain⟨rfl,p8⟩:=hO.z1 (by omega)
    have HL:=Z7 p8
    clear p8;go_wp2_with fail
    go_loopw [12] (fun s12 wr=>∃(i:Nat) (l:List RecD) (A:Option Addr) (c:Nat) (s:Nat×Nat) (he:Bool) (e:EdD) (o:Value),s12=.int .i64 i∧IIn Ws Y.heap.size g pp d qs 1 (n16 d 6) i (zbw af q (.slice A l.length c) u x he e o) L l A c s he e o wr) (fun s12 _=>(n16 d 6) - (intOf s12).toNat)
    case atStart=>exact⟨0,[],none,0,s,he,e,o,rfl,⟨Nat.zero_le _,by simp,GoP.refl hO.go.box hO.go.prt hO.go.ne,Own.nil _ _ _ _,by rw[znv];exact hO.ds⟩⟩
    case round=>
    obtain⟨i,l,A,c,s2,mM,e2,o2,rfl,hI⟩:=hrel
    obtain⟨wo,rfl⟩:∃wo:World,wo=wr:=⟨_,rfl⟩
    have m0:=za0 (j:=1) (oo.out _ (hO.go.kept.trans hI.go.kept)) rfl
    obtain⟨c0,c1,f0,f1⟩:=hI.go.boxes
    obtain⟨p,er⟩:=s2
    dsimp only at c0 c1;have vG:=hI.kn
    have fZ:=hI.ll
    have gG:=hI.go.lt
    have kS:=hI.go.kept.1
    have FIN:=Z7 (fun(mu:er=0→i=(n16 d 6))=>show OIn Y g pp af d q qs 2 (zd6 1 l L) (.slice A l.length c) u x (p,er) mM e2 o2 wo from⟨⟨by omega,by omega⟩,hI.go.more hO.go,hO.hq.by_ (fun k h1 h2=>hI.go.kept.2 k h2 (by omega) (by omega)),⟨A,c,by show Value.slice A l.length c=Value.slice A (L.1++l).length c;rw[HL.out,List.nil_append],by show Own wo Y.heap.size 99 5 A (L.1++l).length c ((L.1++l).flatMap zaq);rw[HL.out,List.nil_append];exact hI.own.lower tB⟩,hO.hu.by_ (fun k h1 h2=>hI.go.kept.2 k h2 (by omega) (by omega)),hO.hx.by_ (fun k h1 h2=>hI.go.kept.2 k h2 (by omega) (by omega)),fun h=>absurd h (by omega),fun _=>hO.z2 (by omega),fun _=>hO.z3 (by omega),by
     rcases hI.ds with⟨h0,h1,ed,h2,h3,h4,h5⟩|h
     ·refine .inl ⟨h0,h1,ed,?_,h3,h4,h5⟩;rw[h2,mu h0,Nat.sub_self];exact zAb d qs _ ed _
     ·exact .inr h⟩)
    by_cases ab:i<(n16 d 6)
    rotate_left
    ·obtain rfl:i=(n16 d 6):=by omega
     clear ab;go_wp2_with fail;go_roundw
     case rel=>exact⟨2,_,_,_,_,_,_,_,_,by go_num,FIN.out (fun _=>rfl)⟩
     case measure=>simp[intOf]
    have cz:(i:Int)<((n16 d 6):Int):=by omega
    by_cases aJ:er=0
    rotate_left
    ·have f2:((er:Int)==0)=false:=zbm aJ
     have ig:=Z7 aJ
     clear aJ;go_wp2_with fail;go_roundw
     case rel=>exact⟨2,_,_,_,_,_,_,_,_,by go_num,FIN.out (fun h=>absurd h ig.out)⟩
     case measure=>simp[intOf]
    subst aJ;clear FIN;have cK:p≤d.length∧∃ed:Option EdD,zbi d=zdj 1 d qs ((n16 d 6) - i) (zd6 1 l L) ed p∧mM=ed.isSome∧e2=ed.getD za8∧OptsT wo Y.heap.size o2 e2.opts:=by
     rcases hI.ds with⟨_,h1,h2⟩|⟨h0,_⟩
     ·exact⟨h1,h2⟩
     ·exact absurd rfl h0
    obtain⟨hp,ed,iv,rfl,rfl,bL⟩:=cK
    rw[show(n16 d 6) - i=((n16 d 6) - (i+1))+1 by omega]at iv
    have cJ:=Z7 iv
    have mw:=Z7 bL
    clear iv bL;have iA:=Z7 (zjk g g pp p 1 d af q (.slice A l.length c) u x o2 ed wo hI.go.box hI.go.prt hI.go.ne (Z4 g) (by omega) hp sI)
    go_wp2_with fail;refine iA.out.mono ?_;rintro e w2 ⟨r,b,s3,jY,e3,o3,rfl,G2,na⟩;have NS:DS Y.heap.size 1 d qs ((n16 d 6) - (i+1)) (zd6 1 (l++if b=true then[r]else[]) L) s3 jY e3 o3 w2:=by
     rcases na with⟨h0,y,hy⟩|⟨h0,gI,⟨rfl,hr,rfl,rfl,rfl⟩|⟨rfl,y,hr,rfl,rfl,mx⟩⟩
     ·exact .inr ⟨h0,y,by rw[cJ.out,zq6 (by omega) hy]⟩
     ·refine .inl ⟨h0,gI,ed,?_,rfl,rfl,mw.out.by_ fun k hk=>?_⟩
      ·rw[cJ.out,zgq (by omega) hr,zea];rfl
      ·have:=mw.out.lt k hk
       exact G2.kept.2 k this.2 (by omega) (by omega)
     ·refine .inl ⟨h0,gI,some _,?_,rfl,rfl,mx.lower (by omega)⟩
      rw[cJ.out,zgq (by omega) hr,zea];rfl
    have jZ:=Z7 NS
    clear NS na cJ mw iA c0 c1 f0 f1 m0;obtain⟨rn,rt,rcl,rtt,rda⟩:=r
    have ax:=G2.lt
    have iF:=G2.kept.1
    rcases b with _|_
    ·have aM:(l++if(false=true)then[(⟨rn,rt,rcl,rtt,rda⟩:RecD)]else[])=l:=by simp
     rw[aM]at jZ;clear aM;have bZ:=Z7 hI
     clear hI;go_wp2_with fail;go_roundw
     case rel=>
      have dm:Ext w2 (w2.alloc (.cells #[S rn,.int .u16 rt,.int .u16 rcl,.int .u32 rtt,S rda] 99)):=(Z5 _).alloc _
      (repeat apply Exists.intro)
      exact⟨⟨i+1,l,A,c,s3,jY,e3,o3,by go_num,⟨by omega,by omega,(G2.ext dm (by omega)).more bZ.out.go,(bZ.out.own.keptB G2.kept dM.1 dM.2).ext dm,jZ.out.map fun h=>h.ext dm⟩⟩,rfl⟩
     case measure=>simp[intOf];omega
    ·have aM:(l++if(true=true)then[(⟨rn,rt,rcl,rtt,rda⟩:RecD)]else[])=l++[⟨rn,rt,rcl,rtt,rda⟩]:=by simp
     rw[aM]at jZ;clear aM;obtain⟨V3,eX⟩:∃V3,V3=w2.alloc (.cells #[S rn,.int .u16 rt,.int .u16 rcl,.int .u32 rtt,S rda] 99):=⟨_,rfl⟩
     obtain⟨bb,aM⟩:∃bb,bb=w2.heap.size:=⟨_,rfl⟩
     have ao:Ext w2 V3:=by rw[eX];exact(Z5 _).alloc _
     have r13:V3.heap[bb]? =some (.cells #[S rn,.int .u16 rt,.int .u16 rcl,.int .u32 rtt,S rda] 99):=by rw[eX,aM];exact heap_alloc_new _ _
     have G3:=G2.ext ao (by omega)
     have ag:=(hI.own.keptB G2.kept dM.1 dM.2).ext ao
     have y0:V3.cell? ⟨bb,0,none⟩=some (S rn):=za0 (j:=0) r13 rfl
     have y1:V3.cell? ⟨bb,1,none⟩=some (.int .u16 rt):=za0 (j:=1) r13 rfl
     have y2:V3.cell? ⟨bb,2,none⟩=some (.int .u16 rcl):=za0 (j:=2) r13 rfl
     have y3:V3.cell? ⟨bb,3,none⟩=some (.int .u32 rtt):=za0 (j:=3) r13 rfl
     have y4:V3.cell? ⟨bb,4,none⟩=some (S rda):=za0 (j:=4) r13 rfl
     have zc:V3.cell? ⟨g,12,none⟩=some (.slice A l.length c):=za0 (j:=12) G3.box rfl
     have xB:=ao.size
     have kN:Ws.heap.size≤V3.heap.size:=by omega
     have bZ:=Z7 hI
     clear hI;go_upto_region 23 with fail
     rw[←eX,←aM];clear eX aM;go_upto_region 27 with fail
     refine wp_region_lit ?_
     iterate 9 go_step
     refine zjo rfl (.tmp 104) rfl (some 105) rfl (S rn) (.int .u16 rt) (.int .u16 rcl) (.int .u32 rtt) (S rda) rfl ?_;refine zad _ rfl (.tmp 103) (.tmp 105) _ rfl Ws.heap.size 99 i0 _ 5 40 Tryz.underlying40 aH aF aC ft rfl (by omega) A l.length c (l.flatMap zaq) rfl (ag.ext ((Z5 _).alloc _)) 0 _ 1 1 (zaq ⟨rn,rt,rcl,rtt,rda⟩) rfl (zaw _ _ (by simp) _ _ 1 5 rfl) (zky _) (by omega) (by omega) (by simp;omega) ?_
     intro A6 c6 w13 aQ dG dT dH;have G13:=((G3.ext ((Z5 V3).alloc (.cells (zaq ⟨rn,rt,rcl,rtt,rda⟩).toArray 99)) (by omega)).more bZ.out.go).grown dM (ag.ext ((Z5 _).alloc _)) dG dT (by omega) (Z4 _)
     have j13:w13.cell? ⟨g,12,none⟩=some (.slice A l.length c):=za0 (j:=12) G13.box rfl
     have f13:=za3 (j:=12) G13.box
     go_wp2_with fail;have G14:=G13.setg 12 (.slice A6 (l.length+1) c6) (Z4 g)
     go_roundw
     case rel=>
      have g1:GoP g g pp (zbw af q (.slice A6 (l++[(⟨rn,rt,rcl,rtt,rda⟩:RecD)]).length c6) u x jY e3 o3) s3 Ws (w13.setCell ⟨g,12,none⟩ (.slice A6 (l.length+1) c6)):=by rw[Z6];exact G14
      have g2:Own (w13.setCell ⟨g,12,none⟩ (.slice A6 (l.length+1) c6)) Ws.heap.size 99 5 A6 (l++[(⟨rn,rt,rcl,rtt,rda⟩:RecD)]).length c6 ((l++[(⟨rn,rt,rcl,rtt,rda⟩:RecD)]).flatMap zaq):=by
       have:=aQ.set_other (p:=⟨g,12,none⟩) dM.1 (.slice A6 (l.length+1) c6)
       simpa using this
      have g3:=jZ.out.map (wr':=w13.setCell ⟨g,12,none⟩ (.slice A6 (l.length+1) c6)) fun h=>by
       have h2:=((h.ext ao).ext ((Z5 V3).alloc (.cells (zaq ⟨rn,rt,rcl,rtt,rda⟩).toArray 99))).grown (ag.ext ((Z5 _).alloc _)) (by decide) dG
       exact h2.by_ fun k hk=>Below.heap_setCell _ _ _ k (by have:=(h2.lt k hk).1;dsimp only;omega)
      have g4:i+1≤(n16 d 6):=by omega
      have g5:(l++[(⟨rn,rt,rcl,rtt,rda⟩:RecD)]).length≤i+1:=by simp;omega
      (repeat apply Exists.intro)
      exact⟨⟨i+1,l++[⟨rn,rt,rcl,rtt,rda⟩],A6,c6,s3,jY,e3,o3,by go_num,⟨g4,g5,g1,g2,g3⟩⟩,rfl⟩
     case measure=>simp[intOf];omega
   ·obtain⟨rfl,p8⟩:=hO.z2 (by omega)
    have HL:=Z7 p8
    clear p8;go_wp2_with fail
    go_loopw [12] (fun s12 wr=>∃(i:Nat) (l:List RecD) (A:Option Addr) (c:Nat) (s:Nat×Nat) (he:Bool) (e:EdD) (o:Value),s12=.int .i64 i∧IIn Ws Y.heap.size g pp d qs 2 (n16 d 8) i (zbw af q a (.slice A l.length c) x he e o) L l A c s he e o wr) (fun s12 _=>(n16 d 8) - (intOf s12).toNat)
    case atStart=>exact⟨0,[],none,0,s,he,e,o,rfl,⟨Nat.zero_le _,by simp,GoP.refl hO.go.box hO.go.prt hO.go.ne,Own.nil _ _ _ _,by rw[znv];exact hO.ds⟩⟩
    case round=>
    obtain⟨i,l,A,c,s2,mM,e2,o2,rfl,hI⟩:=hrel
    obtain⟨wo,rfl⟩:∃wo:World,wo=wr:=⟨_,rfl⟩
    have m0:=za0 (j:=2) (oo.out _ (hO.go.kept.trans hI.go.kept)) rfl
    obtain⟨c0,c1,f0,f1⟩:=hI.go.boxes
    obtain⟨p,er⟩:=s2
    dsimp only at c0 c1;have vG:=hI.kn
    have fZ:=hI.ll
    have gG:=hI.go.lt
    have kS:=hI.go.kept.1
    have FIN:=Z7 (fun(mu:er=0→i=(n16 d 8))=>show OIn Y g pp af d q qs 3 (zd6 2 l L) a (.slice A l.length c) x (p,er) mM e2 o2 wo from⟨⟨by omega,by omega⟩,hI.go.more hO.go,hO.hq.by_ (fun k h1 h2=>hI.go.kept.2 k h2 (by omega) (by omega)),hO.ha.by_ (fun k h1 h2=>hI.go.kept.2 k h2 (by omega) (by omega)),⟨A,c,by show Value.slice A l.length c=Value.slice A (L.2.1++l).length c;rw[HL.out,List.nil_append],by show Own wo Y.heap.size 99 5 A (L.2.1++l).length c ((L.2.1++l).flatMap zaq);rw[HL.out,List.nil_append];exact hI.own.lower tB⟩,hO.hx.by_ (fun k h1 h2=>hI.go.kept.2 k h2 (by omega) (by omega)),fun h=>absurd h (by omega),fun h=>absurd h (by omega),fun _=>hO.z3 (by omega),by
     rcases hI.ds with⟨h0,h1,ed,h2,h3,h4,h5⟩|h
     ·refine .inl ⟨h0,h1,ed,?_,h3,h4,h5⟩;rw[h2,mu h0,Nat.sub_self];exact zAc d qs _ ed _
     ·exact .inr h⟩)
    by_cases ab:i<(n16 d 8)
    rotate_left
    ·obtain rfl:i=(n16 d 8):=by omega
     clear ab;go_wp2_with fail;go_roundw
     case rel=>exact⟨3,_,_,_,_,_,_,_,_,by go_num,FIN.out (fun _=>rfl)⟩
     case measure=>simp[intOf]
    have cz:(i:Int)<((n16 d 8):Int):=by omega
    by_cases aJ:er=0
    rotate_left
    ·have f2:((er:Int)==0)=false:=zbm aJ
     have ig:=Z7 aJ
     clear aJ;go_wp2_with fail;go_roundw
     case rel=>exact⟨3,_,_,_,_,_,_,_,_,by go_num,FIN.out (fun h=>absurd h ig.out)⟩
     case measure=>simp[intOf]
    subst aJ;clear FIN;have cK:p≤d.length∧∃ed:Option EdD,zbi d=zdj 2 d qs ((n16 d 8) - i) (zd6 2 l L) ed p∧mM=ed.isSome∧e2=ed.getD za8∧OptsT wo Y.heap.size o2 e2.opts:=by
     rcases hI.ds with⟨_,h1,h2⟩|⟨h0,_⟩
     ·exact⟨h1,h2⟩
     ·exact absurd rfl h0
    obtain⟨hp,ed,iv,rfl,rfl,bL⟩:=cK
    rw[show(n16 d 8) - i=((n16 d 8) - (i+1))+1 by omega]at iv
    have cJ:=Z7 iv
    have mw:=Z7 bL
    clear iv bL;have iA:=Z7 (zjk g g pp p 2 d af q a (.slice A l.length c) x o2 ed wo hI.go.box hI.go.prt hI.go.ne (Z4 g) (by omega) hp sI)
    go_wp2_with fail;refine iA.out.mono ?_;rintro e w2 ⟨r,b,s3,jY,e3,o3,rfl,G2,na⟩;have NS:DS Y.heap.size 2 d qs ((n16 d 8) - (i+1)) (zd6 2 (l++if b=true then[r]else[]) L) s3 jY e3 o3 w2:=by
     rcases na with⟨h0,y,hy⟩|⟨h0,gI,⟨rfl,hr,rfl,rfl,rfl⟩|⟨rfl,y,hr,rfl,rfl,mx⟩⟩
     ·exact .inr ⟨h0,y,by rw[cJ.out,zq6 (by omega) hy]⟩
     ·refine .inl ⟨h0,gI,ed,?_,rfl,rfl,mw.out.by_ fun k hk=>?_⟩
      ·rw[cJ.out,zgq (by omega) hr,zea];rfl
      ·have:=mw.out.lt k hk
       exact G2.kept.2 k this.2 (by omega) (by omega)
     ·refine .inl ⟨h0,gI,some _,?_,rfl,rfl,mx.lower (by omega)⟩
      rw[cJ.out,zgq (by omega) hr,zea];rfl
    have jZ:=Z7 NS
    clear NS na cJ mw iA c0 c1 f0 f1 m0;obtain⟨rn,rt,rcl,rtt,rda⟩:=r
    have ax:=G2.lt
    have iF:=G2.kept.1
    rcases b with _|_
    ·have aM:(l++if(false=true)then[(⟨rn,rt,rcl,rtt,rda⟩:RecD)]else[])=l:=by simp
     rw[aM]at jZ;clear aM;have bZ:=Z7 hI
     clear hI;go_wp2_with fail;go_roundw
     case rel=>
      have dm:Ext w2 (w2.alloc (.cells #[S rn,.int .u16 rt,.int .u16 rcl,.int .u32 rtt,S rda] 99)):=(Z5 _).alloc _
      (repeat apply Exists.intro)
      exact⟨⟨i+1,l,A,c,s3,jY,e3,o3,by go_num,⟨by omega,by omega,(G2.ext dm (by omega)).more bZ.out.go,(bZ.out.own.keptB G2.kept dM.1 dM.2).ext dm,jZ.out.map fun h=>h.ext dm⟩⟩,rfl⟩
     case measure=>simp[intOf];omega
    ·have aM:(l++if(true=true)then[(⟨rn,rt,rcl,rtt,rda⟩:RecD)]else[])=l++[⟨rn,rt,rcl,rtt,rda⟩]:=by simp
     rw[aM]at jZ;clear aM;obtain⟨V3,eX⟩:∃V3,V3=w2.alloc (.cells #[S rn,.int .u16 rt,.int .u16 rcl,.int .u32 rtt,S rda] 99):=⟨_,rfl⟩
     obtain⟨bb,aM⟩:∃bb,bb=w2.heap.size:=⟨_,rfl⟩
     have ao:Ext w2 V3:=by rw[eX];exact(Z5 _).alloc _
     have r13:V3.heap[bb]? =some (.cells #[S rn,.int .u16 rt,.int .u16 rcl,.int .u32 rtt,S rda] 99):=by rw[eX,aM];exact heap_alloc_new _ _
     have G3:=G2.ext ao (by omega)
     have ag:=(hI.own.keptB G2.kept dM.1 dM.2).ext ao
     have y0:V3.cell? ⟨bb,0,none⟩=some (S rn):=za0 (j:=0) r13 rfl
     have y1:V3.cell? ⟨bb,1,none⟩=some (.int .u16 rt):=za0 (j:=1) r13 rfl
     have y2:V3.cell? ⟨bb,2,none⟩=some (.int .u16 rcl):=za0 (j:=2) r13 rfl
     have y3:V3.cell? ⟨bb,3,none⟩=some (.int .u32 rtt):=za0 (j:=3) r13 rfl
     have y4:V3.cell? ⟨bb,4,none⟩=some (S rda):=za0 (j:=4) r13 rfl
     have zc:V3.cell? ⟨g,13,none⟩=some (.slice A l.length c):=za0 (j:=13) G3.box rfl
     have xB:=ao.size
     have kN:Ws.heap.size≤V3.heap.size:=by omega
     have bZ:=Z7 hI
     clear hI;go_upto_region 23 with fail
     rw[←eX,←aM];clear eX aM;go_upto_region 29 with fail
     refine wp_region_lit ?_
     iterate 9 go_step
     refine zjo rfl (.tmp 112) rfl (some 113) rfl (S rn) (.int .u16 rt) (.int .u16 rcl) (.int .u32 rtt) (S rda) rfl ?_;refine zad _ rfl (.tmp 111) (.tmp 113) _ rfl Ws.heap.size 99 i0 _ 5 40 Tryz.underlying40 aH aF aC ft rfl (by omega) A l.length c (l.flatMap zaq) rfl (ag.ext ((Z5 _).alloc _)) 0 _ 1 1 (zaq ⟨rn,rt,rcl,rtt,rda⟩) rfl (zaw _ _ (by simp) _ _ 1 5 rfl) (zky _) (by omega) (by omega) (by simp;omega) ?_
     intro A6 c6 w13 aQ dG dT dH;have G13:=((G3.ext ((Z5 V3).alloc (.cells (zaq ⟨rn,rt,rcl,rtt,rda⟩).toArray 99)) (by omega)).more bZ.out.go).grown dM (ag.ext ((Z5 _).alloc _)) dG dT (by omega) (Z4 _)
     have j13:w13.cell? ⟨g,13,none⟩=some (.slice A l.length c):=za0 (j:=13) G13.box rfl
     have f13:=za3 (j:=13) G13.box
     go_wp2_with fail;have G14:=G13.setg 13 (.slice A6 (l.length+1) c6) (Z4 g)
     go_roundw
     case rel=>
      have g1:GoP g g pp (zbw af q a (.slice A6 (l++[(⟨rn,rt,rcl,rtt,rda⟩:RecD)]).length c6) x jY e3 o3) s3 Ws (w13.setCell ⟨g,13,none⟩ (.slice A6 (l.length+1) c6)):=by rw[Z6];exact G14
      have g2:Own (w13.setCell ⟨g,13,none⟩ (.slice A6 (l.length+1) c6)) Ws.heap.size 99 5 A6 (l++[(⟨rn,rt,rcl,rtt,rda⟩:RecD)]).length c6 ((l++[(⟨rn,rt,rcl,rtt,rda⟩:RecD)]).flatMap zaq):=by
       have:=aQ.set_other (p:=⟨g,13,none⟩) dM.1 (.slice A6 (l.length+1) c6)
       simpa using this
      have g3:=jZ.out.map (wr':=w13.setCell ⟨g,13,none⟩ (.slice A6 (l.length+1) c6)) fun h=>by
       have h2:=((h.ext ao).ext ((Z5 V3).alloc (.cells (zaq ⟨rn,rt,rcl,rtt,rda⟩).toArray 99))).grown (ag.ext ((Z5 _).alloc _)) (by decide) dG
       exact h2.by_ fun k hk=>Below.heap_setCell _ _ _ k (by have:=(h2.lt k hk).1;dsimp only;omega)
      have g4:i+1≤(n16 d 8):=by omega
      have g5:(l++[(⟨rn,rt,rcl,rtt,rda⟩:RecD)]).length≤i+1:=by simp;omega
      (repeat apply Exists.intro)
      exact⟨⟨i+1,l++[⟨rn,rt,rcl,rtt,rda⟩],A6,c6,s3,jY,e3,o3,by go_num,⟨g4,g5,g1,g2,g3⟩⟩,rfl⟩
     case measure=>simp[intOf];omega
   ·obtain⟨rfl,p8⟩:=hO.z3 (by omega)
    have HL:=Z7 p8
    clear p8;go_wp2_with fail
    go_loopw [12] (fun s12 wr=>∃(i:Nat) (l:List RecD) (A:Option Addr) (c:Nat) (s:Nat×Nat) (he:Bool) (e:EdD) (o:Value),s12=.int .i64 i∧IIn Ws Y.heap.size g pp d qs 3 (n16 d 10) i (zbw af q a u (.slice A l.length c) he e o) L l A c s he e o wr) (fun s12 _=>(n16 d 10) - (intOf s12).toNat)
    case atStart=>exact⟨0,[],none,0,s,he,e,o,rfl,⟨Nat.zero_le _,by simp,GoP.refl hO.go.box hO.go.prt hO.go.ne,Own.nil _ _ _ _,by rw[znv];exact hO.ds⟩⟩
    case round=>
    obtain⟨i,l,A,c,s2,mM,e2,o2,rfl,hI⟩:=hrel
    obtain⟨wo,rfl⟩:∃wo:World,wo=wr:=⟨_,rfl⟩
    have m0:=za0 (j:=3) (oo.out _ (hO.go.kept.trans hI.go.kept)) rfl
    obtain⟨c0,c1,f0,f1⟩:=hI.go.boxes
    obtain⟨p,er⟩:=s2
    dsimp only at c0 c1;have vG:=hI.kn
    have fZ:=hI.ll
    have gG:=hI.go.lt
    have kS:=hI.go.kept.1
    have FIN:=Z7 (fun(mu:er=0→i=(n16 d 10))=>show OIn Y g pp af d q qs 4 (zd6 3 l L) a u (.slice A l.length c) (p,er) mM e2 o2 wo from⟨⟨by omega,by omega⟩,hI.go.more hO.go,hO.hq.by_ (fun k h1 h2=>hI.go.kept.2 k h2 (by omega) (by omega)),hO.ha.by_ (fun k h1 h2=>hI.go.kept.2 k h2 (by omega) (by omega)),hO.hu.by_ (fun k h1 h2=>hI.go.kept.2 k h2 (by omega) (by omega)),⟨A,c,by show Value.slice A l.length c=Value.slice A (L.2.2++l).length c;rw[HL.out,List.nil_append],by show Own wo Y.heap.size 99 5 A (L.2.2++l).length c ((L.2.2++l).flatMap zaq);rw[HL.out,List.nil_append];exact hI.own.lower tB⟩,fun h=>absurd h (by omega),fun h=>absurd h (by omega),fun h=>absurd h (by omega),by
     rcases hI.ds with⟨h0,h1,ed,h2,h3,h4,h5⟩|h
     ·refine .inl ⟨h0,h1,ed,?_,h3,h4,h5⟩;rw[h2,mu h0,Nat.sub_self];exact zAd d qs _ ed _
     ·exact .inr h⟩)
    by_cases ab:i<(n16 d 10)
    rotate_left
    ·obtain rfl:i=(n16 d 10):=by omega
     clear ab;go_wp2_with fail;go_roundw
     case rel=>exact⟨4,_,_,_,_,_,_,_,_,by go_num,FIN.out (fun _=>rfl)⟩
     case measure=>simp[intOf]
    have cz:(i:Int)<((n16 d 10):Int):=by omega
    by_cases aJ:er=0
    rotate_left
    ·have f2:((er:Int)==0)=false:=zbm aJ
     have ig:=Z7 aJ
     clear aJ;go_wp2_with fail;go_roundw
     case rel=>exact⟨4,_,_,_,_,_,_,_,_,by go_num,FIN.out (fun h=>absurd h ig.out)⟩
     case measure=>simp[intOf]
    subst aJ;clear FIN;have cK:p≤d.length∧∃ed:Option EdD,zbi d=zdj 3 d qs ((n16 d 10) - i) (zd6 3 l L) ed p∧mM=ed.isSome∧e2=ed.getD za8∧OptsT wo Y.heap.size o2 e2.opts:=by
     rcases hI.ds with⟨_,h1,h2⟩|⟨h0,_⟩
     ·exact⟨h1,h2⟩
     ·exact absurd rfl h0
    obtain⟨hp,ed,iv,rfl,rfl,bL⟩:=cK
    rw[show(n16 d 10) - i=((n16 d 10) - (i+1))+1 by omega]at iv
    have cJ:=Z7 iv
    have mw:=Z7 bL
    clear iv bL;have iA:=Z7 (zjk g g pp p 3 d af q a u (.slice A l.length c) o2 ed wo hI.go.box hI.go.prt hI.go.ne (Z4 g) (by omega) hp sI)
    go_wp2_with fail;refine iA.out.mono ?_;rintro e w2 ⟨r,b,s3,jY,e3,o3,rfl,G2,na⟩;have NS:DS Y.heap.size 3 d qs ((n16 d 10) - (i+1)) (zd6 3 (l++if b=true then[r]else[]) L) s3 jY e3 o3 w2:=by
     rcases na with⟨h0,y,hy⟩|⟨h0,gI,⟨rfl,hr,rfl,rfl,rfl⟩|⟨rfl,y,hr,rfl,rfl,mx⟩⟩
     ·exact .inr ⟨h0,y,by rw[cJ.out,zq6 (by omega) hy]⟩
     ·refine .inl ⟨h0,gI,ed,?_,rfl,rfl,mw.out.by_ fun k hk=>?_⟩
      ·rw[cJ.out,zgq (by omega) hr,zea];rfl
      ·have:=mw.out.lt k hk
       exact G2.kept.2 k this.2 (by omega) (by omega)
     ·refine .inl ⟨h0,gI,some _,?_,rfl,rfl,mx.lower (by omega)⟩
      rw[cJ.out,zgq (by omega) hr,zea];rfl
    have jZ:=Z7 NS
    clear NS na cJ mw iA c0 c1 f0 f1 m0;obtain⟨rn,rt,rcl,rtt,rda⟩:=r
    have ax:=G2.lt
    have iF:=G2.kept.1
    rcases b with _|_
    ·have aM:(l++if(false=true)then[(⟨rn,rt,rcl,rtt,rda⟩:RecD)]else[])=l:=by simp
     rw[aM]at jZ;clear aM;have bZ:=Z7 hI
     clear hI;go_wp2_with fail;go_roundw
     case rel=>
      have dm:Ext w2 (w2.alloc (.cells #[S rn,.int .u16 rt,.int .u16 rcl,.int .u32 rtt,S rda] 99)):=(Z5 _).alloc _
      (repeat apply Exists.intro)
      exact⟨⟨i+1,l,A,c,s3,jY,e3,o3,by go_num,⟨by omega,by omega,(G2.ext dm (by omega)).more bZ.out.go,(bZ.out.own.keptB G2.kept dM.1 dM.2).ext dm,jZ.out.map fun h=>h.ext dm⟩⟩,rfl⟩
     case measure=>simp[intOf];omega
    ·have aM:(l++if(true=true)then[(⟨rn,rt,rcl,rtt,rda⟩:RecD)]else[])=l++[⟨rn,rt,rcl,rtt,rda⟩]:=by simp
     rw[aM]at jZ;clear aM;obtain⟨V3,eX⟩:∃V3,V3=w2.alloc (.cells #[S rn,.int .u16 rt,.int .u16 rcl,.int .u32 rtt,S rda] 99):=⟨_,rfl⟩
     obtain⟨bb,aM⟩:∃bb,bb=w2.heap.size:=⟨_,rfl⟩
     have ao:Ext w2 V3:=by rw[eX];exact(Z5 _).alloc _
     have r13:V3.heap[bb]? =some (.cells #[S rn,.int .u16 rt,.int .u16 rcl,.int .u32 rtt,S rda] 99):=by rw[eX,aM];exact heap_alloc_new _ _
     have G3:=G2.ext ao (by omega)
     have ag:=(hI.own.keptB G2.kept dM.1 dM.2).ext ao
     have y0:V3.cell? ⟨bb,0,none⟩=some (S rn):=za0 (j:=0) r13 rfl
     have y1:V3.cell? ⟨bb,1,none⟩=some (.int .u16 rt):=za0 (j:=1) r13 rfl
     have y2:V3.cell? ⟨bb,2,none⟩=some (.int .u16 rcl):=za0 (j:=2) r13 rfl
     have y3:V3.cell? ⟨bb,3,none⟩=some (.int .u32 rtt):=za0 (j:=3) r13 rfl
     have y4:V3.cell? ⟨bb,4,none⟩=some (S rda):=za0 (j:=4) r13 rfl
     have zc:V3.cell? ⟨g,14,none⟩=some (.slice A l.length c):=za0 (j:=14) G3.box rfl
     have xB:=ao.size
     have kN:Ws.heap.size≤V3.heap.size:=by omega
     have bZ:=Z7 hI
     clear hI;go_upto_region 23 with fail
     rw[←eX,←aM];clear eX aM;go_upto_region 25 with fail
     refine wp_region_lit ?_
     iterate 9 go_step
     refine zjo rfl (.tmp 96) rfl (some 97) rfl (S rn) (.int .u16 rt) (.int .u16 rcl) (.int .u32 rtt) (S rda) rfl ?_;refine zad _ rfl (.tmp 95) (.tmp 97) _ rfl Ws.heap.size 99 i0 _ 5 40 Tryz.underlying40 aH aF aC ft rfl (by omega) A l.length c (l.flatMap zaq) rfl (ag.ext ((Z5 _).alloc _)) 0 _ 1 1 (zaq ⟨rn,rt,rcl,rtt,rda⟩) rfl (zaw _ _ (by simp) _ _ 1 5 rfl) (zky _) (by omega) (by omega) (by simp;omega) ?_
     intro A6 c6 w13 aQ dG dT dH;have G13:=((G3.ext ((Z5 V3).alloc (.cells (zaq ⟨rn,rt,rcl,rtt,rda⟩).toArray 99)) (by omega)).more bZ.out.go).grown dM (ag.ext ((Z5 _).alloc _)) dG dT (by omega) (Z4 _)
     have j13:w13.cell? ⟨g,14,none⟩=some (.slice A l.length c):=za0 (j:=14) G13.box rfl
     have f13:=za3 (j:=14) G13.box
     go_wp2_with fail;have G14:=G13.setg 14 (.slice A6 (l.length+1) c6) (Z4 g)
     go_roundw
     case rel=>
      have g1:GoP g g pp (zbw af q a u (.slice A6 (l++[(⟨rn,rt,rcl,rtt,rda⟩:RecD)]).length c6) jY e3 o3) s3 Ws (w13.setCell ⟨g,14,none⟩ (.slice A6 (l.length+1) c6)):=by rw[Z6];exact G14
      have g2:Own (w13.setCell ⟨g,14,none⟩ (.slice A6 (l.length+1) c6)) Ws.heap.size 99 5 A6 (l++[(⟨rn,rt,rcl,rtt,rda⟩:RecD)]).length c6 ((l++[(⟨rn,rt,rcl,rtt,rda⟩:RecD)]).flatMap zaq):=by
       have:=aQ.set_other (p:=⟨g,14,none⟩) dM.1 (.slice A6 (l.length+1) c6)
       simpa using this
      have g3:=jZ.out.map (wr':=w13.setCell ⟨g,14,none⟩ (.slice A6 (l.length+1) c6)) fun h=>by
       have h2:=((h.ext ao).ext ((Z5 V3).alloc (.cells (zaq ⟨rn,rt,rcl,rtt,rda⟩).toArray 99))).grown (ag.ext ((Z5 _).alloc _)) (by decide) dG
       exact h2.by_ fun k hk=>Below.heap_setCell _ _ _ k (by have:=(h2.lt k hk).1;dsimp only;omega)
      have g4:i+1≤(n16 d 10):=by omega
      have g5:(l++[(⟨rn,rt,rcl,rtt,rda⟩:RecD)]).length≤i+1:=by simp;omega
      (repeat apply Exists.intro)
      exact⟨⟨i+1,l++[⟨rn,rt,rcl,rtt,rda⟩],A6,c6,s3,jY,e3,o3,by go_num,⟨g4,g5,g1,g2,g3⟩⟩,rfl⟩
     case measure=>simp[intOf];omega
   ·go_wp2_with fail;go_meet;exact⟨L,a,u,x,s,he,e,o,hO⟩
 case rest=>
 obtain⟨L,a,u,x,s,he,e,o,hO⟩:=hcut
 obtain⟨Z,rfl⟩:∃Z:World,Z=wc:=⟨_,rfl⟩
 clear HO;obtain⟨c0,c1,f0,f1⟩:=hO.go.boxes
 obtain⟨p,er⟩:=s
 dsimp only at c0 c1;have r0Z:=hO.go.kept.row r0Y (by omega) (by omega)
 have oT:Ext w Z:=lf.then hO.go.below (by omega)
 by_cases aJ:er=0
 rotate_left
 ·have bp:∃y,zbi d=.error y:=by
   rcases hO.ds with⟨h0,_⟩|⟨_,h0⟩
   ·exact absurd h0 aJ
   ·exact h0
  obtain⟨y,hy⟩:=bp
  have HF:=Z7 (zif aT aR hy)
  have f2:((er:Int)==0)=false:=zbm aJ
  have f3:((er:Int)!=0)=true:=by rw[bne,f2];rfl
  have ig:=Z7 aJ
  clear aJ hy hO;go_upto_region 31 with fail
  refine wp_region_noPanic ?_;refine za6 (S:=fun V=>V.cell? ⟨pp,1,none⟩=some (.int .i64 (er:Int))) (.take 0 (.take 1 (.take 2 (.take 3 (.take 4 (.run 5 (.take 6 .done))))))) (by kernel_rfl) (by kernel_rfl) (fun _ _ _ _ _ h=>h) c1 ?_
  repeat((with_reducible refine za7 ?_);first
   |(refine za4 (v:=?_) (by rfl) (by rfl) ?_ ?_;rotate_left;(focus(intro V hV;(try dsimp only at hV);(go_simp<;>with_reducible rfl)));(try simp only[ap])))
  refine za5 (by rfl) (fun K hK=>?_)
  rw[if_pos (by rfl)]
  refine wp_store_row 45 (.tmp 2) (.tmp 121) rfl w.heap.size zcu rfl rfl 45 _ (show Z.drew.heap[w.heap.size]? =_ from r0Z) (by kernel_rfl) rfl (by kernel_rfl) ?_
  have gr:=zak Z.drew w.heap.size zcu
  refine hK.out _ _ ?_ ?_
  ·exact(zak Z.drew w.heap.size zcu).cell (a:=⟨pp,1,none⟩) c1 (fun e=>by injection e with e;(try dsimp only at e);omega)
  clear hK K
  (try simp only[ap])
  repeat((with_reducible refine za7 ?_);first
   |(refine za4 (v:=?_) (by rfl) (by rfl) ?_ ?_;rotate_left;(focus(intro V hV;(try dsimp only at hV);(go_simp<;>with_reducible rfl)));(try simp only[ap])))
  refine zag ?_;refine NoPanic.normal ?_;go_wp2_with fail;refine bodyPost_ret (zas rfl _ _ w.heap.size _ _ _ _ rfl (setRow_heap Z.drew w.heap.size _ _ _ _ (show Z.drew.heap[w.heap.size]? =_ from r0Z)) Tryz.underlying45 rfl (by kernel_rfl)) rfl ?_
  exact⟨.inl ⟨er,y,ig.out,HF.out,rfl⟩,Below.grown oT.drew gr oT.drew.size (fun k hk=>by injection hk with hk;omega)⟩
 subst aJ;have eH:p≤d.length∧∃ed:Option EdD,zbi d=zxl d qs L ed p∧he=ed.isSome∧e=ed.getD za8∧OptsT Z Y.heap.size o e.opts:=by
  rcases hO.ds with⟨_,h1,h2⟩|⟨h0,_⟩
  ·exact⟨h1,h2⟩
  ·exact absurd rfl h0
 obtain⟨hp,ed,eH,rfl,rfl,bL⟩:=eH
 obtain⟨m,hm⟩:∃m:MsgD,m=⟨af,qs,L.1,L.2.1,L.2.2,ed.isSome,ed.getD za8⟩:=⟨_,rfl⟩
 have hB:zbi d=.ok (m,p):=by rw[eH,hm,AJ.out];rfl
 have En:=zq3 aT aR hB
 obtain⟨lS,dR⟩:=zx7 hd hB
 have cF:=(znz hB).1
 have gt:MsgO Z Y.heap.size m q a u x o:=by rw[hm];exact⟨hO.hq,hO.ha,hO.hu,hO.hx,bL⟩
 have ix:Z.heap[g]? =some (.cells (zbw m.hd q a u x m.he m.ed o) 45):=by rw[hm];exact hO.go.box
 have HE:=Z7 (zvf m q a u x o Z cF (gt.msg7 lS) dR)
 have Ki:=hO.go.kept.1
 clear eH hB cF dR bL hO hm;have dN:=Z7 lS
 have Eo:=Z7 En
 clear lS En;go_upto_region 32 with fail
 refine wp_region_lit ?_;refine zaz (by rfl) 45 (.tmp 7) rfl g rfl _ (zbw m.hd q a u x m.he m.ed o) _ _ ix Tryz.underlying45 rfl (by kernel_rfl) ?_
 go_wp2_with fail;refine HE.out.mono ?_;rintro e v9 ⟨rfl,ej⟩;clear HE;have xC:=Z8 ej ix
 have r09:=Z8 ej r0Z
 have pm:pp<Z.heap.size:=by omega
 have d0:=(ej.cell (p:=⟨pp,0,none⟩) pm).trans c0
 clear c0 c1 f0 f1;have tQ:Ext w v9:=oT.trans ej
 by_cases ff:p<d.length∨zau m≠0
 ·have HF:∃x,zct d=.error x:=by
   rw[Eo.out];rcases ff with h|h
   ·exact⟨5,if_pos h⟩
   ·by_cases h5:p<d.length
    ·exact⟨5,if_pos h5⟩
    ·exact⟨zau m,by rw[if_neg h5,if_neg h]⟩
  obtain⟨x5,Ep⟩:=HF
  have HF:=Z7 Ep
  clear Ep;by_cases bi:p<d.length
  ·have Eq:(p:Int)<(d.length:Int):=by omega
   clear ff;go_upto_region 34 with fail
   refine wp_region_lit ?_
   repeat(first
    |(refine Go.wpList_store_rowTo rfl 45 (.tmp 2) (.tmp 142) rfl rfl w.heap.size zcu rfl rfl 45 _ r09 (by kernel_rfl) rfl (by kernel_rfl) ?_)
    |go_step)
   (try simp only[Exit.inBlock,Exit.then])
   refine bodyPost_ret (zas rfl _ _ w.heap.size _ _ _ _ rfl (setRow_heap v9 w.heap.size _ _ _ _ r09) Tryz.underlying45 rfl (by kernel_rfl)) rfl ?_
   exact⟨.inl ⟨5,x5,by decide,HF.out,rfl⟩,Below.grown tQ (zak v9 _ _) tQ.size (fun k hk=>by injection hk with hk;omega)⟩
  ·have Eq:¬(p:Int)<(d.length:Int):=by omega
   have tR:zau m≠0:=by rcases ff with h|h;exact absurd h bi;exact h
   have g2:((zau m:Int)==0)=false:=zbm tR
   have g3:((zau m:Int)!=0)=true:=by rw[bne,g2];rfl
   clear ff tR;go_upto_region 34 with fail
   refine wp_region_lit ?_
   repeat(first
    |(refine Go.wpList_store_rowTo rfl 45 (.tmp 2) (.tmp 142) rfl rfl w.heap.size zcu rfl rfl 45 _ r09 (by kernel_rfl) rfl (by kernel_rfl) ?_)
    |go_step)
   (try simp only[Exit.inBlock,Exit.then])
   refine bodyPost_ret (zas rfl _ _ w.heap.size _ _ _ _ rfl (setRow_heap v9 w.heap.size _ _ _ _ r09) Tryz.underlying45 rfl (by kernel_rfl)) rfl ?_
   exact⟨.inl ⟨5,x5,by decide,HF.out,rfl⟩,Below.grown tQ (zak v9 _ _) tQ.size (fun k hk=>by injection hk with hk;omega)⟩
 have bi:¬p<d.length:=fun h=>ff (.inl h)
 have Eq:¬(p:Int)<(d.length:Int):=by omega
 have tR:zau m=0:=by
  by_cases h:zau m=0
  ·exact h
  ·exact absurd (.inr h) ff
 have HF:=Z7 (show zct d=.ok m by rw[Eo.out,if_neg bi,if_pos tR])
 rw[tR];clear ff bi tR;go_upto_region 35 with fail
 obtain⟨qA',qc',BJ,_⟩:=gt.qs
 obtain⟨aA,ac,rfl,_⟩:=gt.ans
 obtain⟨uA,uc,rfl,_⟩:=gt.auth
 obtain⟨xA,xc,rfl,_⟩:=gt.extra
 obtain⟨oA,oc,rfl,_⟩:=gt.opts
 subst BJ;refine wp_region_lit ?_
 repeat(first
  |(refine zaz (by rfl) 45 (.tmp 7) rfl g rfl _ (zbw m.hd (.slice qA' m.qs.length qc') (.slice aA m.ans.length ac) (.slice uA m.auth.length uc) (.slice xA m.extra.length xc) m.he m.ed (.slice oA m.ed.opts.length oc)) _ _ xC Tryz.underlying45 rfl (by kernel_rfl) ?_)
  |(refine Go.wpList_store_rowTo rfl 45 (.tmp 2) (.tmp 143) rfl rfl w.heap.size (zbw m.hd (.slice qA' m.qs.length qc') (.slice aA m.ans.length ac) (.slice uA m.auth.length uc) (.slice xA m.extra.length xc) m.he m.ed (.slice oA m.ed.opts.length oc)) rfl rfl 45 _ r09 (by kernel_rfl) rfl (by kernel_rfl) ?_)
  |go_step)
 (try simp only[Exit.inBlock,Exit.then])
 refine bodyPost_ret (zas rfl _ _ w.heap.size _ _ _ _ rfl (setRow_heap v9 w.heap.size _ _ _ _ r09) Tryz.underlying45 rfl (by kernel_rfl)) rfl ?_
 have gr:=zak v9 w.heap.size (zbw m.hd (.slice qA' m.qs.length qc') (.slice aA m.ans.length ac) (.slice uA m.auth.length uc) (.slice xA m.extra.length xc) m.he m.ed (.slice oA m.ed.opts.length oc))
 refine⟨.inr ⟨m,_,_,_,_,_,HF.out,rfl,?_,dN.out⟩,Below.grown tQ gr tQ.size (fun k hk=>by injection hk with hk;omega)⟩
 exact((gt.by_ fun k h1 h2=>ej.block k h2).by_ fun k h1 h2=>gr.block k h2 (fun e=>by injection e with e;omega)).lower (by omega)
end Go.Proofs.YtdnpmapelmjfpaaGreatDoor
