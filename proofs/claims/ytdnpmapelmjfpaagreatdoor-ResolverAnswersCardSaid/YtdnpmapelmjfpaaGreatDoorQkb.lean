/- Contracts of functions and plain lemmas that the proofs of this seat share (joined texts). No condition. -/
import Derived.Test.YtdnpmapelmjfpaaGreatDoorQka
import Derived.Test.YtdnpmapelmjfpaaGreatDoorQfw4
import Derived.Test.YtdnpmapelmjfpaaGreatDoorQrl
import Derived.Deep.CutBlock
import Derived.Deep.DeepCutAuto
set_option maxHeartbeats 32000000
set_option linter.unusedVariables false
set_option linter.unusedSimpArgs false
namespace Go.Proofs.YtdnpmapelmjfpaaGreatDoor
abbrev Ls:=List RecD×List RecD×List RecD
def zd7 (sec:Nat) (x:List RecD) (L:Ls):Ls:=match sec with
 |1=>(L.1++x,L.2.1,L.2.2)
 |2=>(L.1,L.2.1++x,L.2.2)
 |_=>(L.1,L.2.1,L.2.2++x)
theorem zn7 (sec:Nat) (L:Ls):zd7 sec [] L=L:=by
 unfold zd7;split<;>simp
theorem zee (sec:Nat) (x y:List RecD) (L:Ls):zd7 sec y (zd7 sec x L)=zd7 sec (x++y) L:=by
 unfold zd7;split<;>simp
def zw9 (d:List UInt8) (qs:List QD) (L:Ls) (ed:Option EdD) (p:Nat):Except Nat (MsgD×Nat):=.ok (⟨za1 (n16 d 0) (n16 d 2),qs,L.1,L.2.1,L.2.2,ed.isSome,ed.getD za6⟩,p)
def zp2 (d:List UInt8) (qs:List QD) (k:Nat) (L:Ls) (ed:Option EdD) (p:Nat):Except Nat (MsgD×Nat):=match zat d true k ed p with
 | .error e=>.error e
 | .ok (x,e,q)=>zw9 d qs (zd7 3 x L) e q
def zp1 (d:List UInt8) (qs:List QD) (k:Nat) (L:Ls) (ed:Option EdD) (p:Nat):Except Nat (MsgD×Nat):=match zat d false k ed p with
 | .error e=>.error e
 | .ok (x,e,q)=>zp2 d qs (n16 d 10) (zd7 2 x L) e q
def zs6 (d:List UInt8) (qs:List QD) (k:Nat) (L:Ls) (ed:Option EdD) (p:Nat):Except Nat (MsgD×Nat):=match zat d false k ed p with
 | .error e=>.error e
 | .ok (x,e,q)=>zp1 d qs (n16 d 8) (zd7 1 x L) e q
def zdm (sec:Nat) (d:List UInt8) (qs:List QD) (k:Nat) (L:Ls) (ed:Option EdD) (p:Nat):Except Nat (MsgD×Nat):=match sec with
 |1=>zs6 d qs k L ed p
 |2=>zp1 d qs k L ed p
 |3=>zp2 d qs k L ed p
 |_=>zw9 d qs L ed p
theorem zAo {d:List UInt8} {qs:List QD} {p:Nat} (h:zc9 d (n16 d 4) 12=.ok (qs,p)):zc4 d=zdm 1 d qs (n16 d 6) ([],[],[]) none p:=by
 unfold zc4 zdm zs6;rw[h];dsimp only;rcases zat d false (n16 d 6) none p with e|⟨a,e1,p1⟩
 ·rfl
 ·dsimp only[zd7,List.nil_append];unfold zp1;rcases zat d false (n16 d 8) e1 p1 with e|⟨u,e2,p2⟩
  ·rfl
  ·dsimp only[zd7,List.nil_append];unfold zp2;rcases zat d true (n16 d 10) e2 p2 with e|⟨x,e3,p3⟩
   ·rfl
   ·rfl
theorem zyn (d:List UInt8) (qs:List QD) (L:Ls) (ed:Option EdD) (p:Nat):zdm 1 d qs 0 L ed p=zdm 2 d qs (n16 d 8) L ed p:=by
 simp[zdm,zs6,zat,zd7]
theorem zyo (d:List UInt8) (qs:List QD) (L:Ls) (ed:Option EdD) (p:Nat):zdm 2 d qs 0 L ed p=zdm 3 d qs (n16 d 10) L ed p:=by
 simp[zdm,zp1,zat,zd7]
theorem zyp (d:List UInt8) (qs:List QD) (L:Ls) (ed:Option EdD) (p:Nat):zdm 3 d qs 0 L ed p=zw9 d qs L ed p:=by
 simp[zdm,zp2,zat,zd7]
theorem zgp {d:List UInt8} {qs:List QD} {k sec p p':Nat} {L:Ls} {ed ed':Option EdD} {r:Option RecD} (hs:sec=1∨sec=2∨sec=3) (h:zbp d (decide (sec=3)) ed p=.ok (r,ed',p')):
 zdm sec d qs (k+1) L ed p=zdm sec d qs k (zd7 sec r.toList L) ed' p':=by
 rcases hs with rfl|rfl|rfl
 ·have h:zbp d false ed p=.ok (r,ed',p'):=h
  unfold zdm zs6;simp only[zat,h];rcases zat d false k ed' p' with e|⟨x,e,q⟩
  ·rfl
  ·dsimp only;rw[zee]
 ·have h:zbp d false ed p=.ok (r,ed',p'):=h
  unfold zdm zp1;simp only[zat,h];rcases zat d false k ed' p' with e|⟨x,e,q⟩
  ·rfl
  ·dsimp only;rw[zee]
 ·have h:zbp d true ed p=.ok (r,ed',p'):=h
  unfold zdm zp2;simp only[zat,h];rcases zat d true k ed' p' with e|⟨x,e,q⟩
  ·rfl
  ·dsimp only;rw[zee]
theorem zp3 {d:List UInt8} {qs:List QD} {k sec p x:Nat} {L:Ls} {ed:Option EdD} (hs:sec=1∨sec=2∨sec=3) (h:zbp d (decide (sec=3)) ed p=.error x):zdm sec d qs (k+1) L ed p=.error x:=by
 rcases hs with rfl|rfl|rfl
 ·have h:zbp d false ed p=.error x:=h
  unfold zdm zs6;simp only[zat,h]
 ·have h:zbp d false ed p=.error x:=h
  unfold zdm zp1;simp only[zat,h]
 ·have h:zbp d true ed p=.error x:=h
  unfold zdm zp2;simp only[zat,h]
end Go.Proofs.YtdnpmapelmjfpaaGreatDoor
namespace Go.Proofs.YtdnpmapelmjfpaaGreatDoor
open Go.RowKit
set_option maxRecDepth 100000
abbrev zbt:Array Value:= #[.int .u16 0,.bool false,.int .u8 0,.bool false,.bool false,.bool false,.bool false,.bool false,.bool false,.bool false,.int .u8 0,.slice none 0 0,.slice none 0 0,.slice none 0 0,.slice none 0 0,.bool false,.int .u16 0,.int .u8 0,.int .u8 0,.int .u16 0,.slice none 0 0]
theorem zvx (hdr:HdD):Tryz.prog.built 45 [(0,.agg #[.int .u16 hdr.id,.bool hdr.qr,.int .u8 hdr.op,.bool hdr.aa,.bool hdr.tc,.bool hdr.rd,.bool hdr.ra,.bool hdr.z,.bool hdr.ad,.bool hdr.cd,.int .u8 hdr.code])]=some #[.int .u16 hdr.id,.bool hdr.qr,.int .u8 hdr.op,.bool hdr.aa,.bool hdr.tc,.bool hdr.rd,.bool hdr.ra,.bool hdr.z,.bool hdr.ad,.bool hdr.cd,.int .u8 hdr.code,.slice none 0 0,.slice none 0 0,.slice none 0 0,.slice none 0 0,.bool false,.int .u16 0,.int .u8 0,.int .u8 0,.int .u16 0,.slice none 0 0]:=by kernel_rfl
theorem zkq {P:Program} {ops:Array Oper} {rest:List Oper} {o:Oper} {a:Act} {w:World} {Q:Exit→Act→World→Prop} (hg:o.guard=none) (t:TypeId) (parts:Array (Nat×Operand)) (ho:o.op=.build t parts)
 (vs:List (Nat×Value)) (hv:(parts.map fun(i,x)=>(i,a.eval x)).toList=vs) (cells:Array Value) (hc:P.built t vs=some cells) (dst:Option Tmp) (hd:o.dst=dst)
 (h:wpList P ops Q rest (a.put dst (.agg cells)) w):wpList P ops Q (o::rest) a w:=by
 subst hd;exact wpList_build hg t parts ho (by rw[hv,hc];rfl) (by rw[hv,hc];exact h)
def zAg (d:List UInt8) (w:World) (e:Ending) (w':World):Prop:=
 ((∃(k x:Nat),k≠0∧ze3 d=.error x∧e=.returned (.tuple #[.agg zbt,.int .i64 (k:Int)]))∨(∃m q a u x o,ze3 d=.ok m∧e=.returned (.tuple #[zdr m.hd q a u x m.he m.ed o,.int .i64 0])∧MsgO w' w.heap.size m q a u x o∧MsgBd m))∧Ext w w'
theorem zyf (c0 c1 c2 c3 c4:Value):Instr.fill (fun i=>some (i*5,5)) ((Array.range (1*5)).map ((Value.agg #[.string ⟨#[]⟩,.int .u16 0,.int .u16 0,.int .u32 0,.string ⟨#[]⟩]).cells[·%(Value.agg #[.string ⟨#[]⟩,.int .u16 0,.int .u16 0,.int .u32 0,.string ⟨#[]⟩]).cells.size]!)) [(0,.agg #[c0,c1,c2,c3,c4])]=some #[c0,c1,c2,c3,c4]:=by kernel_rfl
theorem zj7 {ops:Array Oper} {rest:List Oper} {o:Oper} {a:Act} {w:World} {Q:Exit→Act→World→Prop} (hg:o.guard=none) (x:Operand) (ho:o.op=.buildSlice 40 1 #[(0,x)]) (dst:Option Tmp) (hd:o.dst=dst)
 (c0 c1 c2 c3 c4:Value) (hx:a.eval x=.agg #[c0,c1,c2,c3,c4])
 (h:wpList Tryz.prog ops Q rest (a.put dst (.slice (some ⟨w.heap.size,0,none⟩) 1 1)) (w.alloc (.cells #[c0,c1,c2,c3,c4] 99))):wpList Tryz.prog ops Q (o::rest) a w:=by
 subst hd;obtain⟨i0,hi0,hz0,hz1,hzb⟩:=info_parts zg2
 refine Go.wpList_buildSlice hg 40 99 1 #[(0,x)] ho #[c0,c1,c2,c3,c4] i0 _ Tryz.underlying40 hi0 hz0 (by rw[hz1];decide) (by rw[hz1];decide) ?_ h
 rw[hz1];simp only[List.map_toArray,List.map_cons,List.map_nil,hx];exact zyf c0 c1 c2 c3 c4
structure QIn (Y:World) (g pp:Nat) (hdr:HdD) (d:List UInt8) (R:Except Nat (List QD×Nat)) (n k:Nat) (l:List QD) (A:Option Addr) (c:Nat) (s:Nat×Nat) (wr:World):Prop where
 kn:k≤n
 ll:l.length≤k
 go:GoP g g pp (za4 hdr (.slice A l.length c) (.slice none 0 0) (.slice none 0 0) (.slice none 0 0) false za6 (.slice none 0 0)) s Y wr
 own:Own wr Y.heap.size 32 3 A l.length c (l.flatMap zcx)
 eq:(s.2=0∧s.1≤d.length∧R=zfs l (zc9 d (n - k) s.1))∨(s.2≠0∧∃y,R=.error y)
def DS (l2 sec:Nat) (d:List UInt8) (qs:List QD) (k:Nat) (L:Ls) (s:Nat×Nat) (he:Bool) (e:EdD) (o:Value) (wr:World):Prop:=
 (s.2=0∧s.1≤d.length∧∃ed:Option EdD,zc4 d=zdm sec d qs k L ed s.1∧he=ed.isSome∧e=ed.getD za6∧OptsT wr l2 o e.opts)∨(s.2≠0∧∃y,zc4 d=.error y)
theorem DS.map {l2 sec k:Nat} {d:List UInt8} {qs:List QD} {L:Ls} {s:Nat×Nat} {he:Bool} {e:EdD} {o:Value} {wr wr':World} (h:DS l2 sec d qs k L s he e o wr) (f:OptsT wr l2 o e.opts→OptsT wr' l2 o e.opts):DS l2 sec d qs k L s he e o wr':=by
 rcases h with⟨h0,h1,ed,h2,h3,h4,h5⟩|h
 ·exact .inl ⟨h0,h1,ed,h2,h3,h4,f h5⟩
 ·exact .inr h
structure OIn (Y:World) (g pp:Nat) (hdr:HdD) (d:List UInt8) (q:Value) (qs:List QD) (sec:Nat) (L:Ls) (a u x:Value) (s:Nat×Nat) (he:Bool) (e:EdD) (o:Value) (wr:World):Prop where
 s1:1≤sec∧sec≤4
 go:GoP g g pp (za4 hdr q a u x he e o) s Y wr
 hq:OQus wr Y.heap.size q qs
 ha:ORec7 wr Y.heap.size a L.1
 hu:ORec7 wr Y.heap.size u L.2.1
 hx:ORec7 wr Y.heap.size x L.2.2
 z1:sec≤1→a=(.slice none 0 0)∧L.1=[]
 z2:sec≤2→u=(.slice none 0 0)∧L.2.1=[]
 z3:sec≤3→x=(.slice none 0 0)∧L.2.2=[]
 ds:DS Y.heap.size sec d qs (n16 d (4+2*sec)) L s he e o wr
structure IIn (Ws:World) (l2 g pp:Nat) (d:List UInt8) (qs:List QD) (sec n i:Nat) (M:Array Value) (L0:Ls) (l:List RecD) (A:Option Addr) (c:Nat) (s:Nat×Nat) (he:Bool) (e:EdD) (o:Value) (wr:World):Prop where
 kn:i≤n
 ll:l.length≤i
 go:GoP g g pp M s Ws wr
 own:Own wr Ws.heap.size 99 5 A l.length c (l.flatMap za5)
 ds:DS l2 sec d qs (n - i) (zd7 sec l L0) s he e o wr
theorem zvw {d:List UInt8} {m:MsgD} {p:Nat} (hd:d.length≤16384) (h:zc4 d=.ok (m,p)):MsgBd m∧∀r∈m.ans++m.auth++m.extra,r.data.length≤100000:=by
 rcases h1:zc9 d (n16 d 4) 12 with e|⟨qs,p0⟩
 ·rw[zhy h1]at h;cases h
 rcases h2:zat d false (n16 d 6) none p0 with e|⟨a,e1,p1⟩
 ·rw[zrh h1 h2]at h;cases h
 rcases h3:zat d false (n16 d 8) e1 p1 with e|⟨u,e2,p2⟩
 ·rw[zri h1 h2 h3]at h;cases h
 rcases h4:zat d true (n16 d 10) e2 p2 with e|⟨x,e3,p3⟩
 ·rw[zrj h1 h2 h3 h4]at h;cases h
 rw[zrk h1 h2 h3 h4]at h;injection h with h;injection h with h _
 subst h;have b1:=zpc h1
 have b2:=zh1 hd h2
 have b3:=zh1 hd h3
 have b4:=zh1 hd h4
 have b5:=zia (by omega) h4
 have n10:=zdo d 10
 refine⟨⟨fun q hq=>Nat.le_trans (b1 q hq) (by omega),fun r hr=>⟨Nat.le_trans (b2 r hr).1 (by omega),Nat.le_trans (b2 r hr).2 (by omega)⟩,fun r hr=>⟨Nat.le_trans (b3 r hr).1 (by omega),Nat.le_trans (b3 r hr).2 (by omega)⟩,fun r hr=>⟨Nat.le_trans (b4 r hr).1 (by omega),Nat.le_trans (b4 r hr).2 (by omega)⟩,Nat.le_trans b5.1 (by omega)⟩,fun r hr=>?_⟩
 rcases List.mem_append.1 hr with hr|hr
 ·rcases List.mem_append.1 hr with hr|hr
  ·exact(b2 r hr).2
  ·exact(b3 r hr).2
 ·exact(b4 r hr).2
theorem zu5 (d:List UInt8) (w:World) (hd:d.length≤16384):
 Calls Tryz.prog 54 #[S d] w (zAg d w):=by
 obtain⟨X0,hX0⟩:∃X0,X0=w.alloc (.cells #[.int .u16 0,.bool false,.int .u8 0,.bool false,.bool false,.bool false,.bool false,.bool false,.bool false,.bool false,.int .u8 0,.slice none 0 0,.slice none 0 0,.slice none 0 0,.slice none 0 0,.bool false,.int .u16 0,.int .u8 0,.int .u8 0,.int .u16 0,.slice none 0 0] 45):=⟨_,rfl⟩
 have hw0:Ext w X0:=by rw[hX0];exact(Ext.refl _).alloc _
 have r0:X0.heap[w.heap.size]? =some (.cells zbt 45):=by rw[hX0];exact heap_alloc_new _ _
 have hli:¬((65535:Int)<(d.length:Int)):=by omega
 have hlong:¬65535<d.length:=by omega
 by_cases hshort:d.length<12
 ·have hF:ze3 d=.error 4:=by unfold ze3;rw[if_neg hlong,if_pos hshort]
  have HR:=Lib.hid (zsr d X0 hshort)
  have HF:=Lib.hid hF
  have R0:=Lib.hid (fun V (hV:Ext X0 V)=>(hV.block _ (Array.getElem?_eq_some_iff.1 r0).1).trans r0)
  clear hF hlong hshort r0;go_enter Tryz.func54,Tryz.ntmps54;go_upto_region 1 with fail
  rw[←hX0];clear hX0;go_wp2_with fail;refine HR.out.mono ?_;rintro e w1 ⟨rfl,hE1⟩;go_upto_region 5 with fail
  obtain⟨w2,hw2⟩:∃w2,w2=(w1.alloc (.cells #[.int .u16 hdZ.id,.bool hdZ.qr,.int .u8 hdZ.op,.bool hdZ.aa,.bool hdZ.tc,.bool hdZ.rd,.bool hdZ.ra,.bool hdZ.z,.bool hdZ.ad,.bool hdZ.cd,.int .u8 hdZ.code] 30)).alloc (.cells #[.int .i64 0,.int .i64 0,.int .i64 0,.int .i64 0] 129):=⟨_,rfl⟩
  have hE2:Ext X0 w2:=by rw[hw2];exact(hE1.alloc _).alloc _
  rw[←hw2];clear hw2;refine wp_region_lit ?_
  repeat(first
   |(refine Go.wpList_store_rowTo rfl 45 (.tmp 2) (.tmp 27) rfl rfl w.heap.size zbt rfl rfl 45 _ (R0.out _ hE2) (by kernel_rfl) rfl (by kernel_rfl) ?_)
   |go_step)
  (try simp only[Exit.inBlock,Exit.then])
  refine bodyPost_ret (zau rfl _ _ w.heap.size _ _ _ _ rfl (setRow_heap w2 w.heap.size _ _ _ _ (R0.out _ hE2)) Tryz.underlying45 rfl (by kernel_rfl)) rfl ?_
  exact⟨.inl ⟨4,4,zcr,HF.out,rfl⟩,Below.grown (hw0.trans hE2) (zag w2 _ _) (hw0.trans hE2).size (fun k hk=>by injection hk with hk;omega)⟩
 have HR:=Lib.hid (zzl d X0 (by omega) (by omega))
 obtain⟨hdr,hhd⟩:∃hdr,hdr=za1 (n16 d 0) (n16 d 2):=⟨_,rfl⟩
 rw[←hhd]at HR;have HHD:=Lib.hid hhd
 clear hhd;go_enter Tryz.func54,Tryz.ntmps54;go_upto_region 1 with fail
 rw[←hX0];clear hX0;go_wp2_with fail;refine HR.out.mono ?_;rintro e w1 ⟨rfl,hE1⟩;clear HR;go_upto_region 6 with fail
 obtain⟨X3,hX3⟩:∃X3,X3=(w1.alloc (.cells #[.int .u16 hdr.id,.bool hdr.qr,.int .u8 hdr.op,.bool hdr.aa,.bool hdr.tc,.bool hdr.rd,.bool hdr.ra,.bool hdr.z,.bool hdr.ad,.bool hdr.cd,.int .u8 hdr.code] 30)).alloc (.cells #[.int .i64 (n16 d 4:Int),.int .i64 (n16 d 6:Int),.int .i64 (n16 d 8:Int),.int .i64 (n16 d 10:Int)] 129):=⟨_,rfl⟩
 obtain⟨hh,hhh⟩:∃hh,hh=w1.heap.size:=⟨_,rfl⟩
 obtain⟨ch,hch⟩:∃ch,ch=w1.heap.size+1:=⟨_,rfl⟩
 have rc:X3.heap[ch]? =some (.cells #[.int .i64 (n16 d 4:Int),.int .i64 (n16 d 6:Int),.int .i64 (n16 d 8:Int),.int .i64 (n16 d 10:Int)] 129):=by rw[hX3,hch];exact heap_alloc2_new w1 _ _
 have rh:X3.heap[hh]? =some (.cells (hdC hdr) 30):=by
  rw[hX3,hhh];have h1:=heap_alloc_new w1 (.cells (hdC hdr) 30)
  rw[heap_alloc_old _ _ (Array.getElem?_eq_some_iff.1 h1).1];exact h1
 have hX03:Ext X0 X3:=by rw[hX3];exact(hE1.alloc _).alloc _
 have hwch:w.heap.size<ch:=by
  have h1:=(Array.getElem?_eq_some_iff.1 r0).1
  have h2:=hE1.size
  omega
 rw[←hX3,←hch,←hhh];clear hX3 hch hhh hE1;obtain⟨X4,hX4⟩:∃X4,X4=X3.alloc (.cells #[.int .u16 hdr.id,.bool hdr.qr,.int .u8 hdr.op,.bool hdr.aa,.bool hdr.tc,.bool hdr.rd,.bool hdr.ra,.bool hdr.z,.bool hdr.ad,.bool hdr.cd,.int .u8 hdr.code,.slice none 0 0,.slice none 0 0,.slice none 0 0,.slice none 0 0,.bool false,.int .u16 0,.int .u8 0,.int .u8 0,.int .u16 0,.slice none 0 0] 45):=⟨_,rfl⟩
 go_cut [7] (fun s7 wx=>s7=.pointer (some ⟨X3.heap.size,0,none⟩)∧X4=wx)
 case first=>
  as_aux_lemma=>
  have h21:(#[.int .u16 hdr.id,.bool hdr.qr,.int .u8 hdr.op,.bool hdr.aa,.bool hdr.tc,.bool hdr.rd,.bool hdr.ra,.bool hdr.z,.bool hdr.ad,.bool hdr.cd,.int .u8 hdr.code,.slice none 0 0,.slice none 0 0,.slice none 0 0,.slice none 0 0,.bool false,.int .u16 0,.int .u8 0,.int .u8 0,.int .u16 0,.slice none 0 0]:Array Value).all (·.oneCell')=true:=by simp[Value.oneCell']
  refine wp_region_lit ?_;refine zaf (by rfl) 30 (.tmp 4) rfl hh rfl 30 #[.int .u16 hdr.id,.bool hdr.qr,.int .u8 hdr.op,.bool hdr.aa,.bool hdr.tc,.bool hdr.rd,.bool hdr.ra,.bool hdr.z,.bool hdr.ad,.bool hdr.cd,.int .u8 hdr.code] _ _ rh Tryz.underlying30 rfl (by kernel_rfl) ?_
  refine zkq rfl 45 _ rfl [(0,.agg #[.int .u16 hdr.id,.bool hdr.qr,.int .u8 hdr.op,.bool hdr.aa,.bool hdr.tc,.bool hdr.rd,.bool hdr.ra,.bool hdr.z,.bool hdr.ad,.bool hdr.cd,.int .u8 hdr.code])] (by simp only[List.map_toArray,List.map_cons,List.map_nil];rfl) #[.int .u16 hdr.id,.bool hdr.qr,.int .u8 hdr.op,.bool hdr.aa,.bool hdr.tc,.bool hdr.rd,.bool hdr.ra,.bool hdr.z,.bool hdr.ad,.bool hdr.cd,.int .u8 hdr.code,.slice none 0 0,.slice none 0 0,.slice none 0 0,.slice none 0 0,.bool false,.int .u16 0,.int .u8 0,.int .u8 0,.int .u16 0,.slice none 0 0] (zvx hdr) (some 30) rfl ?_
  refine Go.Great.wpList_allocTo rfl (some 7) rfl (.pointer (some ⟨X3.heap.size,0,none⟩)) (.cells #[.int .u16 0,.bool false,.int .u8 0,.bool false,.bool false,.bool false,.bool false,.bool false,.bool false,.bool false,.int .u8 0,.slice none 0 0,.slice none 0 0,.slice none 0 0,.slice none 0 0,.bool false,.int .u16 0,.int .u8 0,.int .u8 0,.int .u16 0,.slice none 0 0] 45) (by kernel_rfl) ?_
  refine Go.wpList_store_rowTo rfl 45 (.tmp 7) (.tmp 30) rfl rfl X3.heap.size #[.int .u16 hdr.id,.bool hdr.qr,.int .u8 hdr.op,.bool hdr.aa,.bool hdr.tc,.bool hdr.rd,.bool hdr.ra,.bool hdr.z,.bool hdr.ad,.bool hdr.cd,.int .u8 hdr.code,.slice none 0 0,.slice none 0 0,.slice none 0 0,.slice none 0 0,.bool false,.int .u16 0,.int .u8 0,.int .u8 0,.int .u16 0,.slice none 0 0] rfl rfl 45 #[.int .u16 0,.bool false,.int .u8 0,.bool false,.bool false,.bool false,.bool false,.bool false,.bool false,.bool false,.int .u8 0,.slice none 0 0,.slice none 0 0,.slice none 0 0,.slice none 0 0,.bool false,.int .u16 0,.int .u8 0,.int .u8 0,.int .u16 0,.slice none 0 0] (heap_alloc_new _ _) (by kernel_rfl) rfl h21 ?_
  rw[zkt X3 #[.int .u16 0,.bool false,.int .u8 0,.bool false,.bool false,.bool false,.bool false,.bool false,.bool false,.bool false,.int .u8 0,.slice none 0 0,.slice none 0 0,.slice none 0 0,.slice none 0 0,.bool false,.int .u16 0,.int .u8 0,.int .u8 0,.int .u16 0,.slice none 0 0] #[.int .u16 hdr.id,.bool hdr.qr,.int .u8 hdr.op,.bool hdr.aa,.bool hdr.tc,.bool hdr.rd,.bool hdr.ra,.bool hdr.z,.bool hdr.ad,.bool hdr.cd,.int .u8 hdr.code,.slice none 0 0,.slice none 0 0,.slice none 0 0,.slice none 0 0,.bool false,.int .u16 0,.int .u8 0,.int .u8 0,.int .u16 0,.slice none 0 0] 45 X3.heap.size rfl];refine wpList_nil ?_;go_wp2_with fail;go_meet;exact⟨rfl,hX4⟩
 case rest=>
 obtain⟨rfl,rfl⟩:=hcut
 obtain⟨g,hgg⟩:∃g,g=X3.heap.size:=⟨_,rfl⟩
 have t4:X4.heap[g]? =some (.cells (za4 hdr (.slice none 0 0) (.slice none 0 0) (.slice none 0 0) (.slice none 0 0) false za6 (.slice none 0 0)) 45):=by rw[hX4,hgg];exact heap_alloc_new _ _
 have hE34:Ext X3 X4:=by rw[hX4];exact(Ext.refl _).alloc _
 rw[←hgg];have hcg:ch<g:=by rw[hgg];exact(Array.getElem?_eq_some_iff.1 rc).1
 clear hX4 hgg
 go_upto_block 0 with fail
 obtain⟨Y,hY⟩:∃Y,Y=X4.alloc (.cells #[.int .i64 12,.int .i64 0] 195):=⟨_,rfl⟩
 obtain⟨pp,hpp⟩:∃pp,pp=X4.heap.size:=⟨_,rfl⟩
 have px:Y.heap[pp]? =some (.cells (zhl (12,0)) 195):=by rw[hY,hpp];exact heap_alloc_new _ _
 have hE4Y:Ext X4 Y:=by rw[hY];exact(Ext.refl _).alloc _
 have hX3Y:Ext X3 Y:=hE34.trans hE4Y
 have bx:=(hE4Y.block _ (Array.getElem?_eq_some_iff.1 t4).1).trans t4
 have hgp:g<pp:=by rw[hpp];exact(Array.getElem?_eq_some_iff.1 t4).1
 have hwY:Ext w Y:=hw0.trans (hX03.trans hX3Y)
 have rcY:=(hX3Y.block _ (Array.getElem?_eq_some_iff.1 rc).1).trans rc
 have r0Y:=((hX03.trans hX3Y).block _ (Array.getElem?_eq_some_iff.1 r0).1).trans r0
 have HG:GoP g g pp (za4 hdr (.slice none 0 0) (.slice none 0 0) (.slice none 0 0) (.slice none 0 0) false za6 (.slice none 0 0)) (12,0) Y Y:=GoP.refl bx px (by omega)
 have hzY:g<Y.heap.size∧pp<Y.heap.size:=HG.lt
 have hwg:w.heap.size<g:=by omega
 rw[←hY,←hpp];clear hY hpp t4 px bx hE4Y hX3Y rc rh hX03 r0 hE34;have hd':d.length≤1048576:=by omega
 have hd65:d.length≤65535:=by omega
 have HHC:=Lib.hid (fun V (hV:KeptB g pp Y V)=>hV.row rcY (by omega) (by omega))
 have hn4:=zdo d 4
 have hn6:=zdo d 6
 have hn8:=zdo d 8
 have hn10:=zdo d 10
 go_cut [] (fun wx=>∃(l:List QD) (A:Option Addr) (c:Nat) (s:Nat×Nat),GoP g g pp (za4 hdr (.slice A l.length c) (.slice none 0 0) (.slice none 0 0) (.slice none 0 0) false za6 (.slice none 0 0)) s Y wx∧Own wx Y.heap.size 32 3 A l.length c (l.flatMap zcx)∧((s.2=0∧s.1≤d.length∧zc9 d (n16 d 4) 12=.ok (l,s.1))∨(s.2≠0∧∃y,zc9 d (n16 d 4) 12=.error y)))
 case first=>
  as_aux_lemma=>
  obtain⟨R,hR⟩:∃R,R=zc9 d (n16 d 4) 12:=⟨_,rfl⟩
  have HI:=Lib.hid (show QIn Y g pp hdr d R (n16 d 4) 0 [] none 0 (12,0) Y from⟨Nat.zero_le _,by simp,HG,Own.nil _ _ _ _,.inl ⟨rfl,by show 12≤d.length;omega,by rw[hR,zq2];rfl⟩⟩)
  obtain⟨i0,hi0,hz0,hz1,hz2⟩:=info_parts zv7
  have HR1:=Lib.hid hR
  clear hR HG;go_wp2_with fail
  go_loopw [9] (fun s9 wr=>∃(k:Nat) (l:List QD) (A:Option Addr) (c:Nat) (s:Nat×Nat),s9=.int .i64 k∧QIn Y g pp hdr d R (n16 d 4) k l A c s wr) (fun s9 _=>n16 d 4 - (intOf s9).toNat)
  case atStart=>exact⟨0,[],none,0,(12,0),rfl,HI.out⟩
  case round=>
   obtain⟨k,l,A,c,s,rfl,hI⟩:=hrel
   obtain⟨wo,rfl⟩:∃wo:World,wo=wr:=⟨_,rfl⟩
   clear HI;have m0:=za0 (j:=0) (HHC.out _ hI.go.kept) rfl
   obtain⟨c0,c1,f0,f1⟩:=hI.go.boxes
   obtain⟨p,er⟩:=s
   dsimp only at c0 c1;have hkn:=hI.kn
   have hll:=hI.ll
   by_cases hlt:k<n16 d 4
   ·have hki:(k:Int)<(n16 d 4:Int):=by omega
    by_cases her:er=0
    ·subst her;have hI2:p≤d.length∧R=zfs l (zc9 d (n16 d 4 - k) p):=by
      rcases hI.eq with⟨_,h1,h2⟩|⟨h0,_⟩
      ·exact⟨h1,h2⟩
      ·exact absurd rfl h0
     obtain⟨hp,heq⟩:=hI2
     rw[show n16 d 4 - k=(n16 d 4 - (k+1))+1 by omega]at heq
     have HEQ:=Lib.hid heq
     clear heq;have HQ:=zEu d p
     unfold quS at HQ;obtain⟨nm,s1,e1⟩:∃n s1,zci d (p,0)=(n,s1):=⟨_,_,rfl⟩
     obtain⟨ty,s2,e2⟩:∃v s,zcc 2 d s1=(v,s):=⟨_,_,rfl⟩
     obtain⟨cl,s3,e3⟩:∃v s,zcc 2 d s2=(v,s):=⟨_,_,rfl⟩
     simp only[e1,e2,e3]at HQ;have o1:okS d s1:=by have:=zlc (d:=d) (s:=(p,0)) (fun _=>hp);rw[e1]at this;exact this
     have o2:okS d s2:=by have:=zeh (k:=2) o1;rw[e2]at this;exact this
     have o3:okS d s3:=by have:=zeh (k:=2) o2;rw[e3]at this;exact this
     have b1:ty<65536:=by have:=zhu 2 d s1 (by decide);rw[e2]at this;exact Nat.lt_of_lt_of_le this (by decide)
     have b2:cl<65536:=by have:=zhu 2 d s2 (by decide);rw[e3]at this;exact Nat.lt_of_lt_of_le this (by decide)
     have C1:=Lib.hid (fun V hV=>zqi pp (p,0) d V hV hd' (fun _=>hp))
     have C2:=Lib.hid (fun V hV=>zet pp 2 s1 d V hV hd' (by decide) o1)
     have C3:=Lib.hid (fun V hV=>zet pp 2 s2 d V hV hd' (by decide) o2)
     rw[e1]at C1;rw[e2]at C2;rw[e3]at C3;dsimp only at C1 C2 C3;have w1:=zop b1
     have w2:=zop b2
     have HQ:=Lib.hid HQ
     have HO3:=Lib.hid o3
     clear e1 e2 e3 o1 o2 o3;have hzo:=hI.go.lt
     have hYo:=hI.go.kept.1
     go_upto_region 12 with fail
     obtain⟨W3,hW3⟩:∃W3,W3=wo.alloc (.cells #[.string ⟨#[]⟩,.int .u16 0,.int .u16 0] 32):=⟨_,rfl⟩
     obtain⟨b,hb⟩:∃b,b=wo.heap.size:=⟨_,rfl⟩
     have r10:W3.heap[b]? =some (.cells #[.string ⟨#[]⟩,.int .u16 0,.int .u16 0] 32):=by rw[hW3,hb];exact heap_alloc_new _ _
     have G:GoP g g pp (za4 hdr (.slice A l.length c) (.slice none 0 0) (.slice none 0 0) (.slice none 0 0) false za6 (.slice none 0 0)) (p,0) wo W3:=by rw[hW3];exact(GoP.refl hI.go.box hI.go.prt hI.go.ne).ext ((Ext.refl _).alloc _) (by omega)
     have hwb:wo.heap.size≤b:=by omega
     have hbg:b≠g:=by omega
     have hbp:b≠pp:=by omega
     rw[←hW3,←hb];clear hW3 hb c0 c1 f0 f1 m0;go_wp2_with fail;refine(C1.out _ G.prt).mono ?_;rintro e v1 ⟨rfl,hs⟩;have r10:=hs.kept.row r10 hbp hbp
     have G:=G.st hs (by omega)
     clear hs;have cc:=za0 (j:=0) r10 rfl
     have fc:=zab (j:=0) r10
     go_upto_region 13 with fail
     have G:=G.setNew hzo (by omega) hwb 0 (S nm)
     have r10:(v1.setCell ⟨b,0,none⟩ (S nm)).heap[b]? =some (.cells #[S nm,.int .u16 0,.int .u16 0] 32):=za7 r10 0 _
     clear cc fc;obtain⟨V1,hV⟩:∃V,V=v1.setCell ⟨b,0,none⟩ (S nm):=⟨_,rfl⟩
     rw[←hV]at G r10 ⊢;clear hV;go_wp2_with fail;refine(C2.out _ G.prt).mono ?_;rintro e v2 ⟨rfl,hs⟩;have r10:=hs.kept.row r10 hbp hbp
     have G:=G.st hs (by omega)
     clear hs;have cc:=za0 (j:=1) r10 rfl
     have fc:=zab (j:=1) r10
     go_upto_region 14 with fail
     have G:=G.setNew hzo (by omega) hwb 1 (.int .u16 (ty:Int))
     have r10:(v2.setCell ⟨b,1,none⟩ (.int .u16 (ty:Int))).heap[b]? =some (.cells #[S nm,.int .u16 (ty:Int),.int .u16 0] 32):=za7 r10 1 _
     clear cc fc;obtain⟨V2,hV⟩:∃V,V=v2.setCell ⟨b,1,none⟩ (.int .u16 (ty:Int)):=⟨_,rfl⟩
     rw[←hV]at G r10 ⊢;clear hV;go_wp2_with fail;refine(C3.out _ G.prt).mono ?_;rintro e v3 ⟨rfl,hs⟩;have r10:=hs.kept.row r10 hbp hbp
     have G:=G.st hs (by omega)
     clear hs;have cc:=za0 (j:=2) r10 rfl
     have fc:=zab (j:=2) r10
     go_upto_region 15 with fail
     have G:=G.setNew hzo (by omega) hwb 2 (.int .u16 (cl:Int))
     have r10:(v3.setCell ⟨b,2,none⟩ (.int .u16 (cl:Int))).heap[b]? =some (.cells #[S nm,.int .u16 (ty:Int),.int .u16 (cl:Int)] 32):=za7 r10 2 _
     clear cc fc;obtain⟨V3,hV⟩:∃V,V=v3.setCell ⟨b,2,none⟩ (.int .u16 (cl:Int)):=⟨_,rfl⟩
     rw[←hV]at G r10 ⊢;clear hV;have y0:=za0 (j:=0) r10 rfl
     have y1:=za0 (j:=1) r10 rfl
     have y2:=za0 (j:=2) r10 rfl
     have z11:=za0 (j:=11) G.box rfl
     have hown:=hI.own.keptB G.kept hzY.1 hzY.2
     have hw3:Y.heap.size≤V3.heap.size:=Nat.le_trans hYo G.kept.1
     have HIn:=Lib.hid hI
     clear hI C1 C2 C3;go_wp2_with(first
      |(at_builtin
        refine zai _ rfl (.tmp 61) (.tmp 63) _ rfl Y.heap.size 32 i0 _ 3 24 Tryz.underlying39 hi0 hz0 hz1 hz2 rfl (by omega) A l.length c (l.flatMap zcx) rfl (hown.ext ((Ext.refl _).alloc _)) 0 _ 1 1 (zcx ⟨nm,(ty:Int),(cl:Int)⟩) rfl (zaz _ _ (by simp) _ _ 1 3 rfl) (zve _) (by omega) (by omega) (by simp;omega) ?_
        intro A6 c6 w13 hown6 hg6 hb6 hat6;have G13:=((G.ext ((Ext.refl V3).alloc (.cells (zcx ⟨nm,(ty:Int),(cl:Int)⟩).toArray 32)) (by omega)).more HIn.out.go).grown hzY (hown.ext ((Ext.refl _).alloc _)) hg6 hb6 (by omega) (Nat.le_refl _)
        have j13:=za0 (j:=11) G13.box rfl
        have f13:=zab (j:=11) G13.box)
      |fail)
     have G14:=G13.setg 11 (.slice A6 (l.length+1) c6) (Nat.le_refl g)
     go_roundw
     case rel=>
      refine⟨k+1,l++[⟨nm,(ty:Int),(cl:Int)⟩],A6,c6,s3,by go_num,⟨by omega,by simp;omega,?_,?_,?_⟩⟩
      ·rw[List.length_append];exact G14
      ·have:=hown6.set_other (p:=⟨g,11,none⟩) hzY.1 (.slice A6 (l.length+1) c6)
       simpa using this
      ·rcases HQ.out with⟨h0,h1⟩|⟨h0,y,h1⟩
       ·exact .inl ⟨h0,HO3.out h0,HEQ.out.trans (zsk l h1)⟩
       ·exact .inr ⟨h0,y,HEQ.out.trans (zm3 l h1)⟩
     case measure=>simp[intOf];omega
    ·have f2:((er:Int)==0)=false:=zbq her
     have hbad:∃y,R=.error y:=by
      rcases hI.eq with⟨h0,_⟩|⟨_,h0⟩
      ·exact absurd h0 her
      ·exact h0
     have Her:=Lib.hid her
     clear her;go_wp2_with fail;go_meet;exact⟨l,A,c,(p,er),hI.go,hI.own,.inr ⟨Her.out,by rw[←HR1.out];exact hbad⟩⟩
   ·obtain rfl:k=n16 d 4:=by omega
    have HX:=Lib.hid (show(er=0∧p≤d.length∧R=.ok (l,p))∨(er≠0∧∃y,R=.error y)by
     rcases hI.eq with⟨h0,h1,h2⟩|h0
     ·refine .inl ⟨h0,h1,?_⟩;rw[h2,Nat.sub_self];simp[zc9,zfs]
     ·exact .inr h0)
    go_wp2_with fail;go_meet;exact⟨l,A,c,(p,er),hI.go,hI.own,by rw[←HR1.out];exact HX.out⟩
 case rest=>
 obtain⟨qs,qA,qc,sq,GQ,hownq,hqq⟩:=hcut
 obtain⟨Y1,rfl⟩:∃Y1:World,Y1=wc:=⟨_,rfl⟩
 clear HG;have HO:=Lib.hid (show OIn Y g pp hdr d (.slice qA qs.length qc) qs 1 ([],[],[]) (.slice none 0 0) (.slice none 0 0) (.slice none 0 0) sq false za6 (.slice none 0 0) Y1 from⟨⟨by omega,by omega⟩,GQ,⟨qA,qc,rfl,hownq⟩,⟨none,0,rfl,Own.nil _ _ _ _⟩,⟨none,0,rfl,Own.nil _ _ _ _⟩,⟨none,0,rfl,Own.nil _ _ _ _⟩,fun _=>⟨rfl,rfl⟩,fun _=>⟨rfl,rfl⟩,fun _=>⟨rfl,rfl⟩,by
  rcases hqq with⟨h0,h1,h2⟩|⟨h0,y,h2⟩
  ·exact .inl ⟨h0,h1,none,zAo h2,rfl,rfl,OptsT.nil _ _⟩
  ·exact .inr ⟨h0,y,zhy h2⟩⟩)
 obtain⟨q,hqv⟩:∃q,q=Value.slice qA qs.length qc:=⟨_,rfl⟩
 rw[←hqv]at HO;clear GQ hownq hqq hqv;obtain⟨i0,hi0,hz0,hz1,hzb⟩:=info_parts zg2
 go_upto_block 2 with fail
 go_cut [] (fun wx=>∃(L:Ls) (a u x:Value) (s:Nat×Nat) (he:Bool) (e:EdD) (o:Value),OIn Y g pp hdr d q qs 4 L a u x s he e o wx)
 case first=>
  as_aux_lemma=>
  go_wp2_with fail
  go_loopw [11] (fun s11 wr=>∃(sec:Nat) (L:Ls) (a u x:Value) (s:Nat×Nat) (he:Bool) (e:EdD) (o:Value),s11=.int .i64 sec∧OIn Y g pp hdr d q qs sec L a u x s he e o wr) (fun s11 _=>4 - (intOf s11).toNat)
  case atStart=>exact⟨1,([],[],[]),(.slice none 0 0),(.slice none 0 0),(.slice none 0 0),sq,false,za6,(.slice none 0 0),rfl,HO.out⟩
  case round=>
   obtain⟨sec,L,a,u,x,s,he,e,o,rfl,hO⟩:=hrel
   obtain⟨Ws,rfl⟩:∃Ws:World,Ws=wr:=⟨_,rfl⟩
   clear HO;have hsec:sec=1∨sec=2∨sec=3∨sec=4:=by have:=hO.s1;omega
   have hzs:=hO.go.lt
   have hYs:=hO.go.kept.1
   rcases hsec with rfl|rfl|rfl|rfl
   ·obtain⟨rfl,hLn⟩:=hO.z1 (by omega)
    have HL:=Lib.hid hLn
    clear hLn;go_wp2_with fail
    go_loopw [12] (fun s12 wr=>∃(i:Nat) (l:List RecD) (A:Option Addr) (c:Nat) (s:Nat×Nat) (he:Bool) (e:EdD) (o:Value),s12=.int .i64 i∧IIn Ws Y.heap.size g pp d qs 1 (n16 d 6) i (za4 hdr q (.slice A l.length c) u x he e o) L l A c s he e o wr) (fun s12 _=>(n16 d 6) - (intOf s12).toNat)
    case atStart=>exact⟨0,[],none,0,s,he,e,o,rfl,⟨Nat.zero_le _,by simp,GoP.refl hO.go.box hO.go.prt hO.go.ne,Own.nil _ _ _ _,by rw[zn7];exact hO.ds⟩⟩
    case round=>
    obtain⟨i,l,A,c,s2,he2,e2,o2,rfl,hI⟩:=hrel
    obtain⟨wo,rfl⟩:∃wo:World,wo=wr:=⟨_,rfl⟩
    have m0:=za0 (j:=1) (HHC.out _ (hO.go.kept.trans hI.go.kept)) rfl
    obtain⟨c0,c1,f0,f1⟩:=hI.go.boxes
    obtain⟨p,er⟩:=s2
    dsimp only at c0 c1;have hkn:=hI.kn
    have hll:=hI.ll
    have hzo:=hI.go.lt
    have hso:=hI.go.kept.1
    have FIN:=Lib.hid (fun(hin:er=0→i=(n16 d 6))=>show OIn Y g pp hdr d q qs 2 (zd7 1 l L) (.slice A l.length c) u x (p,er) he2 e2 o2 wo from⟨⟨by omega,by omega⟩,hI.go.more hO.go,hO.hq.by_ (fun k h1 h2=>hI.go.kept.2 k h2 (by omega) (by omega)),⟨A,c,by show Value.slice A l.length c=Value.slice A (L.1++l).length c;rw[HL.out,List.nil_append],by show Own wo Y.heap.size 99 5 A (L.1++l).length c ((L.1++l).flatMap za5);rw[HL.out,List.nil_append];exact hI.own.lower hYs⟩,hO.hu.by_ (fun k h1 h2=>hI.go.kept.2 k h2 (by omega) (by omega)),hO.hx.by_ (fun k h1 h2=>hI.go.kept.2 k h2 (by omega) (by omega)),fun h=>absurd h (by omega),fun _=>hO.z2 (by omega),fun _=>hO.z3 (by omega),by
     rcases hI.ds with⟨h0,h1,ed,h2,h3,h4,h5⟩|h
     ·refine .inl ⟨h0,h1,ed,?_,h3,h4,h5⟩;rw[h2,hin h0,Nat.sub_self];exact zyn d qs _ ed _
     ·exact .inr h⟩)
    by_cases hlt:i<(n16 d 6)
    rotate_left
    ·obtain rfl:i=(n16 d 6):=by omega
     clear hlt;go_wp2_with fail;go_roundw
     case rel=>exact⟨2,_,_,_,_,_,_,_,_,by go_num,FIN.out (fun _=>rfl)⟩
     case measure=>simp[intOf]
    have hki:(i:Int)<((n16 d 6):Int):=by omega
    by_cases her:er=0
    rotate_left
    ·have f2:((er:Int)==0)=false:=zbq her
     have Her:=Lib.hid her
     clear her;go_wp2_with fail;go_roundw
     case rel=>exact⟨2,_,_,_,_,_,_,_,_,by go_num,FIN.out (fun h=>absurd h Her.out)⟩
     case measure=>simp[intOf]
    subst her;clear FIN;have hI2:p≤d.length∧∃ed:Option EdD,zc4 d=zdm 1 d qs ((n16 d 6) - i) (zd7 1 l L) ed p∧he2=ed.isSome∧e2=ed.getD za6∧OptsT wo Y.heap.size o2 e2.opts:=by
     rcases hI.ds with⟨_,h1,h2⟩|⟨h0,_⟩
     ·exact⟨h1,h2⟩
     ·exact absurd rfl h0
    obtain⟨hp,ed,heq,rfl,rfl,hop⟩:=hI2
    rw[show(n16 d 6) - i=((n16 d 6) - (i+1))+1 by omega]at heq
    have HEQ:=Lib.hid heq
    have HOP:=Lib.hid hop
    clear heq hop;have HREC:=Lib.hid (zj3 g g pp p 1 d hdr q (.slice A l.length c) u x o2 ed wo hI.go.box hI.go.prt hI.go.ne (Nat.le_refl g) (by omega) hp hd65)
    go_wp2_with fail;refine HREC.out.mono ?_;rintro e w2 ⟨r,b,s3,he3,e3,o3,rfl,G2,hd3⟩;have NS:DS Y.heap.size 1 d qs ((n16 d 6) - (i+1)) (zd7 1 (l++if b=true then[r]else[]) L) s3 he3 e3 o3 w2:=by
     rcases hd3 with⟨h0,y,hy⟩|⟨h0,hle,⟨rfl,hr,rfl,rfl,rfl⟩|⟨rfl,y,hr,rfl,rfl,hop3⟩⟩
     ·exact .inr ⟨h0,y,by rw[HEQ.out,zp3 (by omega) hy]⟩
     ·refine .inl ⟨h0,hle,ed,?_,rfl,rfl,HOP.out.by_ fun k hk=>?_⟩
      ·rw[HEQ.out,zgp (by omega) hr,zee];rfl
      ·have:=HOP.out.lt k hk
       exact G2.kept.2 k this.2 (by omega) (by omega)
     ·refine .inl ⟨h0,hle,some _,?_,rfl,rfl,hop3.lower (by omega)⟩
      rw[HEQ.out,zgp (by omega) hr,zee];rfl
    have HNS:=Lib.hid NS
    clear NS hd3 HEQ HOP HREC c0 c1 f0 f1 m0;obtain⟨rn,rt,rcl,rtt,rda⟩:=r
    have hz2:=G2.lt
    have hs2:=G2.kept.1
    rcases b with _|_
    ·have hbb:(l++if(false=true)then[(⟨rn,rt,rcl,rtt,rda⟩:RecD)]else[])=l:=by simp
     rw[hbb]at HNS;clear hbb;have HIn:=Lib.hid hI
     clear hI;go_wp2_with fail;go_roundw
     case rel=>
      have hEx:Ext w2 (w2.alloc (.cells #[S rn,.int .u16 rt,.int .u16 rcl,.int .u32 rtt,S rda] 99)):=(Ext.refl _).alloc _
      (repeat apply Exists.intro)
      exact⟨⟨i+1,l,A,c,s3,he3,e3,o3,by go_num,⟨by omega,by omega,(G2.ext hEx (by omega)).more HIn.out.go,(HIn.out.own.keptB G2.kept hzs.1 hzs.2).ext hEx,HNS.out.map fun h=>h.ext hEx⟩⟩,rfl⟩
     case measure=>simp[intOf];omega
    ·have hbb:(l++if(true=true)then[(⟨rn,rt,rcl,rtt,rda⟩:RecD)]else[])=l++[⟨rn,rt,rcl,rtt,rda⟩]:=by simp
     rw[hbb]at HNS;clear hbb;obtain⟨V3,hV3⟩:∃V3,V3=w2.alloc (.cells #[S rn,.int .u16 rt,.int .u16 rcl,.int .u32 rtt,S rda] 99):=⟨_,rfl⟩
     obtain⟨bb,hbb⟩:∃bb,bb=w2.heap.size:=⟨_,rfl⟩
     have hE3:Ext w2 V3:=by rw[hV3];exact(Ext.refl _).alloc _
     have r13:V3.heap[bb]? =some (.cells #[S rn,.int .u16 rt,.int .u16 rcl,.int .u32 rtt,S rda] 99):=by rw[hV3,hbb];exact heap_alloc_new _ _
     have G3:=G2.ext hE3 (by omega)
     have hown:=(hI.own.keptB G2.kept hzs.1 hzs.2).ext hE3
     have y0:V3.cell? ⟨bb,0,none⟩=some (S rn):=za0 (j:=0) r13 rfl
     have y1:V3.cell? ⟨bb,1,none⟩=some (.int .u16 rt):=za0 (j:=1) r13 rfl
     have y2:V3.cell? ⟨bb,2,none⟩=some (.int .u16 rcl):=za0 (j:=2) r13 rfl
     have y3:V3.cell? ⟨bb,3,none⟩=some (.int .u32 rtt):=za0 (j:=3) r13 rfl
     have y4:V3.cell? ⟨bb,4,none⟩=some (S rda):=za0 (j:=4) r13 rfl
     have zc:V3.cell? ⟨g,12,none⟩=some (.slice A l.length c):=za0 (j:=12) G3.box rfl
     have hsz3:=hE3.size
     have hw3:Ws.heap.size≤V3.heap.size:=by omega
     have HIn:=Lib.hid hI
     clear hI;go_upto_region 23 with fail
     rw[←hV3,←hbb];clear hV3 hbb;go_upto_region 27 with fail
     refine wp_region_lit ?_
     iterate 9 go_step
     refine zj7 rfl (.tmp 104) rfl (some 105) rfl (S rn) (.int .u16 rt) (.int .u16 rcl) (.int .u32 rtt) (S rda) rfl ?_;refine zai _ rfl (.tmp 103) (.tmp 105) _ rfl Ws.heap.size 99 i0 _ 5 40 Tryz.underlying40 hi0 hz0 hz1 hzb rfl (by omega) A l.length c (l.flatMap za5) rfl (hown.ext ((Ext.refl _).alloc _)) 0 _ 1 1 (za5 ⟨rn,rt,rcl,rtt,rda⟩) rfl (zaz _ _ (by simp) _ _ 1 5 rfl) (zfz _) (by omega) (by omega) (by simp;omega) ?_
     intro A6 c6 w13 hown6 hg6 hb6 hat6;have G13:=((G3.ext ((Ext.refl V3).alloc (.cells (za5 ⟨rn,rt,rcl,rtt,rda⟩).toArray 99)) (by omega)).more HIn.out.go).grown hzs (hown.ext ((Ext.refl _).alloc _)) hg6 hb6 (by omega) (Nat.le_refl _)
     have j13:w13.cell? ⟨g,12,none⟩=some (.slice A l.length c):=za0 (j:=12) G13.box rfl
     have f13:=zab (j:=12) G13.box
     go_wp2_with fail;have G14:=G13.setg 12 (.slice A6 (l.length+1) c6) (Nat.le_refl g)
     go_roundw
     case rel=>
      have g1:GoP g g pp (za4 hdr q (.slice A6 (l++[(⟨rn,rt,rcl,rtt,rda⟩:RecD)]).length c6) u x he3 e3 o3) s3 Ws (w13.setCell ⟨g,12,none⟩ (.slice A6 (l.length+1) c6)):=by rw[List.length_append];exact G14
      have g2:Own (w13.setCell ⟨g,12,none⟩ (.slice A6 (l.length+1) c6)) Ws.heap.size 99 5 A6 (l++[(⟨rn,rt,rcl,rtt,rda⟩:RecD)]).length c6 ((l++[(⟨rn,rt,rcl,rtt,rda⟩:RecD)]).flatMap za5):=by
       have:=hown6.set_other (p:=⟨g,12,none⟩) hzs.1 (.slice A6 (l.length+1) c6)
       simpa using this
      have g3:=HNS.out.map (wr':=w13.setCell ⟨g,12,none⟩ (.slice A6 (l.length+1) c6)) fun h=>by
       have h2:=((h.ext hE3).ext ((Ext.refl V3).alloc (.cells (za5 ⟨rn,rt,rcl,rtt,rda⟩).toArray 99))).grown (hown.ext ((Ext.refl _).alloc _)) (by decide) hg6
       exact h2.by_ fun k hk=>Below.heap_setCell _ _ _ k (by have:=(h2.lt k hk).1;dsimp only;omega)
      have g4:i+1≤(n16 d 6):=by omega
      have g5:(l++[(⟨rn,rt,rcl,rtt,rda⟩:RecD)]).length≤i+1:=by simp;omega
      (repeat apply Exists.intro)
      exact⟨⟨i+1,l++[⟨rn,rt,rcl,rtt,rda⟩],A6,c6,s3,he3,e3,o3,by go_num,⟨g4,g5,g1,g2,g3⟩⟩,rfl⟩
     case measure=>simp[intOf];omega
   ·obtain⟨rfl,hLn⟩:=hO.z2 (by omega)
    have HL:=Lib.hid hLn
    clear hLn;go_wp2_with fail
    go_loopw [12] (fun s12 wr=>∃(i:Nat) (l:List RecD) (A:Option Addr) (c:Nat) (s:Nat×Nat) (he:Bool) (e:EdD) (o:Value),s12=.int .i64 i∧IIn Ws Y.heap.size g pp d qs 2 (n16 d 8) i (za4 hdr q a (.slice A l.length c) x he e o) L l A c s he e o wr) (fun s12 _=>(n16 d 8) - (intOf s12).toNat)
    case atStart=>exact⟨0,[],none,0,s,he,e,o,rfl,⟨Nat.zero_le _,by simp,GoP.refl hO.go.box hO.go.prt hO.go.ne,Own.nil _ _ _ _,by rw[zn7];exact hO.ds⟩⟩
    case round=>
    obtain⟨i,l,A,c,s2,he2,e2,o2,rfl,hI⟩:=hrel
    obtain⟨wo,rfl⟩:∃wo:World,wo=wr:=⟨_,rfl⟩
    have m0:=za0 (j:=2) (HHC.out _ (hO.go.kept.trans hI.go.kept)) rfl
    obtain⟨c0,c1,f0,f1⟩:=hI.go.boxes
    obtain⟨p,er⟩:=s2
    dsimp only at c0 c1;have hkn:=hI.kn
    have hll:=hI.ll
    have hzo:=hI.go.lt
    have hso:=hI.go.kept.1
    have FIN:=Lib.hid (fun(hin:er=0→i=(n16 d 8))=>show OIn Y g pp hdr d q qs 3 (zd7 2 l L) a (.slice A l.length c) x (p,er) he2 e2 o2 wo from⟨⟨by omega,by omega⟩,hI.go.more hO.go,hO.hq.by_ (fun k h1 h2=>hI.go.kept.2 k h2 (by omega) (by omega)),hO.ha.by_ (fun k h1 h2=>hI.go.kept.2 k h2 (by omega) (by omega)),⟨A,c,by show Value.slice A l.length c=Value.slice A (L.2.1++l).length c;rw[HL.out,List.nil_append],by show Own wo Y.heap.size 99 5 A (L.2.1++l).length c ((L.2.1++l).flatMap za5);rw[HL.out,List.nil_append];exact hI.own.lower hYs⟩,hO.hx.by_ (fun k h1 h2=>hI.go.kept.2 k h2 (by omega) (by omega)),fun h=>absurd h (by omega),fun h=>absurd h (by omega),fun _=>hO.z3 (by omega),by
     rcases hI.ds with⟨h0,h1,ed,h2,h3,h4,h5⟩|h
     ·refine .inl ⟨h0,h1,ed,?_,h3,h4,h5⟩;rw[h2,hin h0,Nat.sub_self];exact zyo d qs _ ed _
     ·exact .inr h⟩)
    by_cases hlt:i<(n16 d 8)
    rotate_left
    ·obtain rfl:i=(n16 d 8):=by omega
     clear hlt;go_wp2_with fail;go_roundw
     case rel=>exact⟨3,_,_,_,_,_,_,_,_,by go_num,FIN.out (fun _=>rfl)⟩
     case measure=>simp[intOf]
    have hki:(i:Int)<((n16 d 8):Int):=by omega
    by_cases her:er=0
    rotate_left
    ·have f2:((er:Int)==0)=false:=zbq her
     have Her:=Lib.hid her
     clear her;go_wp2_with fail;go_roundw
     case rel=>exact⟨3,_,_,_,_,_,_,_,_,by go_num,FIN.out (fun h=>absurd h Her.out)⟩
     case measure=>simp[intOf]
    subst her;clear FIN;have hI2:p≤d.length∧∃ed:Option EdD,zc4 d=zdm 2 d qs ((n16 d 8) - i) (zd7 2 l L) ed p∧he2=ed.isSome∧e2=ed.getD za6∧OptsT wo Y.heap.size o2 e2.opts:=by
     rcases hI.ds with⟨_,h1,h2⟩|⟨h0,_⟩
     ·exact⟨h1,h2⟩
     ·exact absurd rfl h0
    obtain⟨hp,ed,heq,rfl,rfl,hop⟩:=hI2
    rw[show(n16 d 8) - i=((n16 d 8) - (i+1))+1 by omega]at heq
    have HEQ:=Lib.hid heq
    have HOP:=Lib.hid hop
    clear heq hop;have HREC:=Lib.hid (zj3 g g pp p 2 d hdr q a (.slice A l.length c) x o2 ed wo hI.go.box hI.go.prt hI.go.ne (Nat.le_refl g) (by omega) hp hd65)
    go_wp2_with fail;refine HREC.out.mono ?_;rintro e w2 ⟨r,b,s3,he3,e3,o3,rfl,G2,hd3⟩;have NS:DS Y.heap.size 2 d qs ((n16 d 8) - (i+1)) (zd7 2 (l++if b=true then[r]else[]) L) s3 he3 e3 o3 w2:=by
     rcases hd3 with⟨h0,y,hy⟩|⟨h0,hle,⟨rfl,hr,rfl,rfl,rfl⟩|⟨rfl,y,hr,rfl,rfl,hop3⟩⟩
     ·exact .inr ⟨h0,y,by rw[HEQ.out,zp3 (by omega) hy]⟩
     ·refine .inl ⟨h0,hle,ed,?_,rfl,rfl,HOP.out.by_ fun k hk=>?_⟩
      ·rw[HEQ.out,zgp (by omega) hr,zee];rfl
      ·have:=HOP.out.lt k hk
       exact G2.kept.2 k this.2 (by omega) (by omega)
     ·refine .inl ⟨h0,hle,some _,?_,rfl,rfl,hop3.lower (by omega)⟩
      rw[HEQ.out,zgp (by omega) hr,zee];rfl
    have HNS:=Lib.hid NS
    clear NS hd3 HEQ HOP HREC c0 c1 f0 f1 m0;obtain⟨rn,rt,rcl,rtt,rda⟩:=r
    have hz2:=G2.lt
    have hs2:=G2.kept.1
    rcases b with _|_
    ·have hbb:(l++if(false=true)then[(⟨rn,rt,rcl,rtt,rda⟩:RecD)]else[])=l:=by simp
     rw[hbb]at HNS;clear hbb;have HIn:=Lib.hid hI
     clear hI;go_wp2_with fail;go_roundw
     case rel=>
      have hEx:Ext w2 (w2.alloc (.cells #[S rn,.int .u16 rt,.int .u16 rcl,.int .u32 rtt,S rda] 99)):=(Ext.refl _).alloc _
      (repeat apply Exists.intro)
      exact⟨⟨i+1,l,A,c,s3,he3,e3,o3,by go_num,⟨by omega,by omega,(G2.ext hEx (by omega)).more HIn.out.go,(HIn.out.own.keptB G2.kept hzs.1 hzs.2).ext hEx,HNS.out.map fun h=>h.ext hEx⟩⟩,rfl⟩
     case measure=>simp[intOf];omega
    ·have hbb:(l++if(true=true)then[(⟨rn,rt,rcl,rtt,rda⟩:RecD)]else[])=l++[⟨rn,rt,rcl,rtt,rda⟩]:=by simp
     rw[hbb]at HNS;clear hbb;obtain⟨V3,hV3⟩:∃V3,V3=w2.alloc (.cells #[S rn,.int .u16 rt,.int .u16 rcl,.int .u32 rtt,S rda] 99):=⟨_,rfl⟩
     obtain⟨bb,hbb⟩:∃bb,bb=w2.heap.size:=⟨_,rfl⟩
     have hE3:Ext w2 V3:=by rw[hV3];exact(Ext.refl _).alloc _
     have r13:V3.heap[bb]? =some (.cells #[S rn,.int .u16 rt,.int .u16 rcl,.int .u32 rtt,S rda] 99):=by rw[hV3,hbb];exact heap_alloc_new _ _
     have G3:=G2.ext hE3 (by omega)
     have hown:=(hI.own.keptB G2.kept hzs.1 hzs.2).ext hE3
     have y0:V3.cell? ⟨bb,0,none⟩=some (S rn):=za0 (j:=0) r13 rfl
     have y1:V3.cell? ⟨bb,1,none⟩=some (.int .u16 rt):=za0 (j:=1) r13 rfl
     have y2:V3.cell? ⟨bb,2,none⟩=some (.int .u16 rcl):=za0 (j:=2) r13 rfl
     have y3:V3.cell? ⟨bb,3,none⟩=some (.int .u32 rtt):=za0 (j:=3) r13 rfl
     have y4:V3.cell? ⟨bb,4,none⟩=some (S rda):=za0 (j:=4) r13 rfl
     have zc:V3.cell? ⟨g,13,none⟩=some (.slice A l.length c):=za0 (j:=13) G3.box rfl
     have hsz3:=hE3.size
     have hw3:Ws.heap.size≤V3.heap.size:=by omega
     have HIn:=Lib.hid hI
     clear hI;go_upto_region 23 with fail
     rw[←hV3,←hbb];clear hV3 hbb;go_upto_region 29 with fail
     refine wp_region_lit ?_
     iterate 9 go_step
     refine zj7 rfl (.tmp 112) rfl (some 113) rfl (S rn) (.int .u16 rt) (.int .u16 rcl) (.int .u32 rtt) (S rda) rfl ?_;refine zai _ rfl (.tmp 111) (.tmp 113) _ rfl Ws.heap.size 99 i0 _ 5 40 Tryz.underlying40 hi0 hz0 hz1 hzb rfl (by omega) A l.length c (l.flatMap za5) rfl (hown.ext ((Ext.refl _).alloc _)) 0 _ 1 1 (za5 ⟨rn,rt,rcl,rtt,rda⟩) rfl (zaz _ _ (by simp) _ _ 1 5 rfl) (zfz _) (by omega) (by omega) (by simp;omega) ?_
     intro A6 c6 w13 hown6 hg6 hb6 hat6;have G13:=((G3.ext ((Ext.refl V3).alloc (.cells (za5 ⟨rn,rt,rcl,rtt,rda⟩).toArray 99)) (by omega)).more HIn.out.go).grown hzs (hown.ext ((Ext.refl _).alloc _)) hg6 hb6 (by omega) (Nat.le_refl _)
     have j13:w13.cell? ⟨g,13,none⟩=some (.slice A l.length c):=za0 (j:=13) G13.box rfl
     have f13:=zab (j:=13) G13.box
     go_wp2_with fail;have G14:=G13.setg 13 (.slice A6 (l.length+1) c6) (Nat.le_refl g)
     go_roundw
     case rel=>
      have g1:GoP g g pp (za4 hdr q a (.slice A6 (l++[(⟨rn,rt,rcl,rtt,rda⟩:RecD)]).length c6) x he3 e3 o3) s3 Ws (w13.setCell ⟨g,13,none⟩ (.slice A6 (l.length+1) c6)):=by rw[List.length_append];exact G14
      have g2:Own (w13.setCell ⟨g,13,none⟩ (.slice A6 (l.length+1) c6)) Ws.heap.size 99 5 A6 (l++[(⟨rn,rt,rcl,rtt,rda⟩:RecD)]).length c6 ((l++[(⟨rn,rt,rcl,rtt,rda⟩:RecD)]).flatMap za5):=by
       have:=hown6.set_other (p:=⟨g,13,none⟩) hzs.1 (.slice A6 (l.length+1) c6)
       simpa using this
      have g3:=HNS.out.map (wr':=w13.setCell ⟨g,13,none⟩ (.slice A6 (l.length+1) c6)) fun h=>by
       have h2:=((h.ext hE3).ext ((Ext.refl V3).alloc (.cells (za5 ⟨rn,rt,rcl,rtt,rda⟩).toArray 99))).grown (hown.ext ((Ext.refl _).alloc _)) (by decide) hg6
       exact h2.by_ fun k hk=>Below.heap_setCell _ _ _ k (by have:=(h2.lt k hk).1;dsimp only;omega)
      have g4:i+1≤(n16 d 8):=by omega
      have g5:(l++[(⟨rn,rt,rcl,rtt,rda⟩:RecD)]).length≤i+1:=by simp;omega
      (repeat apply Exists.intro)
      exact⟨⟨i+1,l++[⟨rn,rt,rcl,rtt,rda⟩],A6,c6,s3,he3,e3,o3,by go_num,⟨g4,g5,g1,g2,g3⟩⟩,rfl⟩
     case measure=>simp[intOf];omega
   ·obtain⟨rfl,hLn⟩:=hO.z3 (by omega)
    have HL:=Lib.hid hLn
    clear hLn;go_wp2_with fail
    go_loopw [12] (fun s12 wr=>∃(i:Nat) (l:List RecD) (A:Option Addr) (c:Nat) (s:Nat×Nat) (he:Bool) (e:EdD) (o:Value),s12=.int .i64 i∧IIn Ws Y.heap.size g pp d qs 3 (n16 d 10) i (za4 hdr q a u (.slice A l.length c) he e o) L l A c s he e o wr) (fun s12 _=>(n16 d 10) - (intOf s12).toNat)
    case atStart=>exact⟨0,[],none,0,s,he,e,o,rfl,⟨Nat.zero_le _,by simp,GoP.refl hO.go.box hO.go.prt hO.go.ne,Own.nil _ _ _ _,by rw[zn7];exact hO.ds⟩⟩
    case round=>
    obtain⟨i,l,A,c,s2,he2,e2,o2,rfl,hI⟩:=hrel
    obtain⟨wo,rfl⟩:∃wo:World,wo=wr:=⟨_,rfl⟩
    have m0:=za0 (j:=3) (HHC.out _ (hO.go.kept.trans hI.go.kept)) rfl
    obtain⟨c0,c1,f0,f1⟩:=hI.go.boxes
    obtain⟨p,er⟩:=s2
    dsimp only at c0 c1;have hkn:=hI.kn
    have hll:=hI.ll
    have hzo:=hI.go.lt
    have hso:=hI.go.kept.1
    have FIN:=Lib.hid (fun(hin:er=0→i=(n16 d 10))=>show OIn Y g pp hdr d q qs 4 (zd7 3 l L) a u (.slice A l.length c) (p,er) he2 e2 o2 wo from⟨⟨by omega,by omega⟩,hI.go.more hO.go,hO.hq.by_ (fun k h1 h2=>hI.go.kept.2 k h2 (by omega) (by omega)),hO.ha.by_ (fun k h1 h2=>hI.go.kept.2 k h2 (by omega) (by omega)),hO.hu.by_ (fun k h1 h2=>hI.go.kept.2 k h2 (by omega) (by omega)),⟨A,c,by show Value.slice A l.length c=Value.slice A (L.2.2++l).length c;rw[HL.out,List.nil_append],by show Own wo Y.heap.size 99 5 A (L.2.2++l).length c ((L.2.2++l).flatMap za5);rw[HL.out,List.nil_append];exact hI.own.lower hYs⟩,fun h=>absurd h (by omega),fun h=>absurd h (by omega),fun h=>absurd h (by omega),by
     rcases hI.ds with⟨h0,h1,ed,h2,h3,h4,h5⟩|h
     ·refine .inl ⟨h0,h1,ed,?_,h3,h4,h5⟩;rw[h2,hin h0,Nat.sub_self];exact zyp d qs _ ed _
     ·exact .inr h⟩)
    by_cases hlt:i<(n16 d 10)
    rotate_left
    ·obtain rfl:i=(n16 d 10):=by omega
     clear hlt;go_wp2_with fail;go_roundw
     case rel=>exact⟨4,_,_,_,_,_,_,_,_,by go_num,FIN.out (fun _=>rfl)⟩
     case measure=>simp[intOf]
    have hki:(i:Int)<((n16 d 10):Int):=by omega
    by_cases her:er=0
    rotate_left
    ·have f2:((er:Int)==0)=false:=zbq her
     have Her:=Lib.hid her
     clear her;go_wp2_with fail;go_roundw
     case rel=>exact⟨4,_,_,_,_,_,_,_,_,by go_num,FIN.out (fun h=>absurd h Her.out)⟩
     case measure=>simp[intOf]
    subst her;clear FIN;have hI2:p≤d.length∧∃ed:Option EdD,zc4 d=zdm 3 d qs ((n16 d 10) - i) (zd7 3 l L) ed p∧he2=ed.isSome∧e2=ed.getD za6∧OptsT wo Y.heap.size o2 e2.opts:=by
     rcases hI.ds with⟨_,h1,h2⟩|⟨h0,_⟩
     ·exact⟨h1,h2⟩
     ·exact absurd rfl h0
    obtain⟨hp,ed,heq,rfl,rfl,hop⟩:=hI2
    rw[show(n16 d 10) - i=((n16 d 10) - (i+1))+1 by omega]at heq
    have HEQ:=Lib.hid heq
    have HOP:=Lib.hid hop
    clear heq hop;have HREC:=Lib.hid (zj3 g g pp p 3 d hdr q a u (.slice A l.length c) o2 ed wo hI.go.box hI.go.prt hI.go.ne (Nat.le_refl g) (by omega) hp hd65)
    go_wp2_with fail;refine HREC.out.mono ?_;rintro e w2 ⟨r,b,s3,he3,e3,o3,rfl,G2,hd3⟩;have NS:DS Y.heap.size 3 d qs ((n16 d 10) - (i+1)) (zd7 3 (l++if b=true then[r]else[]) L) s3 he3 e3 o3 w2:=by
     rcases hd3 with⟨h0,y,hy⟩|⟨h0,hle,⟨rfl,hr,rfl,rfl,rfl⟩|⟨rfl,y,hr,rfl,rfl,hop3⟩⟩
     ·exact .inr ⟨h0,y,by rw[HEQ.out,zp3 (by omega) hy]⟩
     ·refine .inl ⟨h0,hle,ed,?_,rfl,rfl,HOP.out.by_ fun k hk=>?_⟩
      ·rw[HEQ.out,zgp (by omega) hr,zee];rfl
      ·have:=HOP.out.lt k hk
       exact G2.kept.2 k this.2 (by omega) (by omega)
     ·refine .inl ⟨h0,hle,some _,?_,rfl,rfl,hop3.lower (by omega)⟩
      rw[HEQ.out,zgp (by omega) hr,zee];rfl
    have HNS:=Lib.hid NS
    clear NS hd3 HEQ HOP HREC c0 c1 f0 f1 m0;obtain⟨rn,rt,rcl,rtt,rda⟩:=r
    have hz2:=G2.lt
    have hs2:=G2.kept.1
    rcases b with _|_
    ·have hbb:(l++if(false=true)then[(⟨rn,rt,rcl,rtt,rda⟩:RecD)]else[])=l:=by simp
     rw[hbb]at HNS;clear hbb;have HIn:=Lib.hid hI
     clear hI;go_wp2_with fail;go_roundw
     case rel=>
      have hEx:Ext w2 (w2.alloc (.cells #[S rn,.int .u16 rt,.int .u16 rcl,.int .u32 rtt,S rda] 99)):=(Ext.refl _).alloc _
      (repeat apply Exists.intro)
      exact⟨⟨i+1,l,A,c,s3,he3,e3,o3,by go_num,⟨by omega,by omega,(G2.ext hEx (by omega)).more HIn.out.go,(HIn.out.own.keptB G2.kept hzs.1 hzs.2).ext hEx,HNS.out.map fun h=>h.ext hEx⟩⟩,rfl⟩
     case measure=>simp[intOf];omega
    ·have hbb:(l++if(true=true)then[(⟨rn,rt,rcl,rtt,rda⟩:RecD)]else[])=l++[⟨rn,rt,rcl,rtt,rda⟩]:=by simp
     rw[hbb]at HNS;clear hbb;obtain⟨V3,hV3⟩:∃V3,V3=w2.alloc (.cells #[S rn,.int .u16 rt,.int .u16 rcl,.int .u32 rtt,S rda] 99):=⟨_,rfl⟩
     obtain⟨bb,hbb⟩:∃bb,bb=w2.heap.size:=⟨_,rfl⟩
     have hE3:Ext w2 V3:=by rw[hV3];exact(Ext.refl _).alloc _
     have r13:V3.heap[bb]? =some (.cells #[S rn,.int .u16 rt,.int .u16 rcl,.int .u32 rtt,S rda] 99):=by rw[hV3,hbb];exact heap_alloc_new _ _
     have G3:=G2.ext hE3 (by omega)
     have hown:=(hI.own.keptB G2.kept hzs.1 hzs.2).ext hE3
     have y0:V3.cell? ⟨bb,0,none⟩=some (S rn):=za0 (j:=0) r13 rfl
     have y1:V3.cell? ⟨bb,1,none⟩=some (.int .u16 rt):=za0 (j:=1) r13 rfl
     have y2:V3.cell? ⟨bb,2,none⟩=some (.int .u16 rcl):=za0 (j:=2) r13 rfl
     have y3:V3.cell? ⟨bb,3,none⟩=some (.int .u32 rtt):=za0 (j:=3) r13 rfl
     have y4:V3.cell? ⟨bb,4,none⟩=some (S rda):=za0 (j:=4) r13 rfl
     have zc:V3.cell? ⟨g,14,none⟩=some (.slice A l.length c):=za0 (j:=14) G3.box rfl
     have hsz3:=hE3.size
     have hw3:Ws.heap.size≤V3.heap.size:=by omega
     have HIn:=Lib.hid hI
     clear hI;go_upto_region 23 with fail
     rw[←hV3,←hbb];clear hV3 hbb;go_upto_region 25 with fail
     refine wp_region_lit ?_
     iterate 9 go_step
     refine zj7 rfl (.tmp 96) rfl (some 97) rfl (S rn) (.int .u16 rt) (.int .u16 rcl) (.int .u32 rtt) (S rda) rfl ?_;refine zai _ rfl (.tmp 95) (.tmp 97) _ rfl Ws.heap.size 99 i0 _ 5 40 Tryz.underlying40 hi0 hz0 hz1 hzb rfl (by omega) A l.length c (l.flatMap za5) rfl (hown.ext ((Ext.refl _).alloc _)) 0 _ 1 1 (za5 ⟨rn,rt,rcl,rtt,rda⟩) rfl (zaz _ _ (by simp) _ _ 1 5 rfl) (zfz _) (by omega) (by omega) (by simp;omega) ?_
     intro A6 c6 w13 hown6 hg6 hb6 hat6;have G13:=((G3.ext ((Ext.refl V3).alloc (.cells (za5 ⟨rn,rt,rcl,rtt,rda⟩).toArray 99)) (by omega)).more HIn.out.go).grown hzs (hown.ext ((Ext.refl _).alloc _)) hg6 hb6 (by omega) (Nat.le_refl _)
     have j13:w13.cell? ⟨g,14,none⟩=some (.slice A l.length c):=za0 (j:=14) G13.box rfl
     have f13:=zab (j:=14) G13.box
     go_wp2_with fail;have G14:=G13.setg 14 (.slice A6 (l.length+1) c6) (Nat.le_refl g)
     go_roundw
     case rel=>
      have g1:GoP g g pp (za4 hdr q a u (.slice A6 (l++[(⟨rn,rt,rcl,rtt,rda⟩:RecD)]).length c6) he3 e3 o3) s3 Ws (w13.setCell ⟨g,14,none⟩ (.slice A6 (l.length+1) c6)):=by rw[List.length_append];exact G14
      have g2:Own (w13.setCell ⟨g,14,none⟩ (.slice A6 (l.length+1) c6)) Ws.heap.size 99 5 A6 (l++[(⟨rn,rt,rcl,rtt,rda⟩:RecD)]).length c6 ((l++[(⟨rn,rt,rcl,rtt,rda⟩:RecD)]).flatMap za5):=by
       have:=hown6.set_other (p:=⟨g,14,none⟩) hzs.1 (.slice A6 (l.length+1) c6)
       simpa using this
      have g3:=HNS.out.map (wr':=w13.setCell ⟨g,14,none⟩ (.slice A6 (l.length+1) c6)) fun h=>by
       have h2:=((h.ext hE3).ext ((Ext.refl V3).alloc (.cells (za5 ⟨rn,rt,rcl,rtt,rda⟩).toArray 99))).grown (hown.ext ((Ext.refl _).alloc _)) (by decide) hg6
       exact h2.by_ fun k hk=>Below.heap_setCell _ _ _ k (by have:=(h2.lt k hk).1;dsimp only;omega)
      have g4:i+1≤(n16 d 10):=by omega
      have g5:(l++[(⟨rn,rt,rcl,rtt,rda⟩:RecD)]).length≤i+1:=by simp;omega
      (repeat apply Exists.intro)
      exact⟨⟨i+1,l++[⟨rn,rt,rcl,rtt,rda⟩],A6,c6,s3,he3,e3,o3,by go_num,⟨g4,g5,g1,g2,g3⟩⟩,rfl⟩
     case measure=>simp[intOf];omega
   ·go_wp2_with fail;go_meet;exact⟨L,a,u,x,s,he,e,o,hO⟩
 case rest=>
 obtain⟨L,a,u,x,s,he,e,o,hO⟩:=hcut
 obtain⟨Z,rfl⟩:∃Z:World,Z=wc:=⟨_,rfl⟩
 clear HO;obtain⟨c0,c1,f0,f1⟩:=hO.go.boxes
 obtain⟨p,er⟩:=s
 dsimp only at c0 c1;have r0Z:=hO.go.kept.row r0Y (by omega) (by omega)
 have hwZ:Ext w Z:=hwY.then hO.go.below (by omega)
 by_cases her:er=0
 rotate_left
 ·have hbad:∃y,zc4 d=.error y:=by
   rcases hO.ds with⟨h0,_⟩|⟨_,h0⟩
   ·exact absurd h0 her
   ·exact h0
  obtain⟨y,hy⟩:=hbad
  have HF:=Lib.hid (zi1 hlong hshort hy)
  have f2:((er:Int)==0)=false:=zbq her
  have f3:((er:Int)!=0)=true:=by rw[bne,f2];rfl
  have Her:=Lib.hid her
  clear her hy hO;go_upto_region 31 with fail
  refine wp_region_noPanic ?_;refine zac (S:=fun V=>V.cell? ⟨pp,1,none⟩=some (.int .i64 (er:Int))) (.take 0 (.take 1 (.take 2 (.take 3 (.take 4 (.run 5 (.take 6 .done))))))) (by kernel_rfl) (by kernel_rfl) (fun _ _ _ _ _ h=>h) c1 ?_
  repeat((with_reducible refine za9 ?_);first
   |(refine za2 (v:=?_) (by rfl) (by rfl) ?_ ?_;rotate_left;(focus(intro V hV;(try dsimp only at hV);(go_simp<;>with_reducible rfl)));(try simp only[ap])))
  refine za3 (by rfl) (fun K hK=>?_)
  rw[if_pos (by rfl)]
  refine wp_store_row 45 (.tmp 2) (.tmp 121) rfl w.heap.size zbt rfl rfl 45 _ (show Z.drew.heap[w.heap.size]? =_ from r0Z) (by kernel_rfl) rfl (by kernel_rfl) ?_
  have gr:=zag Z.drew w.heap.size zbt
  refine hK.out _ _ ?_ ?_
  ·exact(zag Z.drew w.heap.size zbt).cell (a:=⟨pp,1,none⟩) c1 (fun e=>by injection e with e;(try dsimp only at e);omega)
  clear hK K
  (try simp only[ap])
  repeat((with_reducible refine za9 ?_);first
   |(refine za2 (v:=?_) (by rfl) (by rfl) ?_ ?_;rotate_left;(focus(intro V hV;(try dsimp only at hV);(go_simp<;>with_reducible rfl)));(try simp only[ap])))
  refine zar ?_;refine NoPanic.normal ?_;go_wp2_with fail;refine bodyPost_ret (zau rfl _ _ w.heap.size _ _ _ _ rfl (setRow_heap Z.drew w.heap.size _ _ _ _ (show Z.drew.heap[w.heap.size]? =_ from r0Z)) Tryz.underlying45 rfl (by kernel_rfl)) rfl ?_
  exact⟨.inl ⟨er,y,Her.out,HF.out,rfl⟩,Below.grown hwZ.drew gr hwZ.drew.size (fun k hk=>by injection hk with hk;omega)⟩
 subst her;have hfin:p≤d.length∧∃ed:Option EdD,zc4 d=zw9 d qs L ed p∧he=ed.isSome∧e=ed.getD za6∧OptsT Z Y.heap.size o e.opts:=by
  rcases hO.ds with⟨_,h1,h2⟩|⟨h0,_⟩
  ·exact⟨h1,h2⟩
  ·exact absurd rfl h0
 obtain⟨hp,ed,hfin,rfl,rfl,hop⟩:=hfin
 obtain⟨m,hm⟩:∃m:MsgD,m=⟨hdr,qs,L.1,L.2.1,L.2.2,ed.isSome,ed.getD za6⟩:=⟨_,rfl⟩
 have hB:zc4 d=.ok (m,p):=by rw[hfin,hm,HHD.out];rfl
 have hdy:=zoz hlong hshort hB
 obtain⟨hBd,hsm⟩:=zvw hd hB
 have hwf:=(znb hB).1
 have HMO:MsgO Z Y.heap.size m q a u x o:=by rw[hm];exact⟨hO.hq,hO.ha,hO.hu,hO.hx,hop⟩
 have hbox:Z.heap[g]? =some (.cells (za4 m.hd q a u x m.he m.ed o) 45):=by rw[hm];exact hO.go.box
 have HE:=Lib.hid (zfm m q a u x o Z hwf (HMO.msg7 hBd) hsm)
 have hsY:=hO.go.kept.1
 clear hfin hB hwf hsm hop hO hm;have HBd:=Lib.hid hBd
 have HDY:=Lib.hid hdy
 clear hBd hdy;go_upto_region 32 with fail
 refine wp_region_lit ?_;refine zaf (by rfl) 45 (.tmp 7) rfl g rfl _ (za4 m.hd q a u x m.he m.ed o) _ _ hbox Tryz.underlying45 rfl (by kernel_rfl) ?_
 go_wp2_with fail;refine HE.out.mono ?_;rintro e v9 ⟨rfl,hE9⟩;clear HE;have hbox9:=(hE9.block _ (Array.getElem?_eq_some_iff.1 hbox).1).trans hbox
 have r09:=(hE9.block _ (Array.getElem?_eq_some_iff.1 r0Z).1).trans r0Z
 have hpz:pp<Z.heap.size:=by omega
 have d0:=(hE9.cell (p:=⟨pp,0,none⟩) hpz).trans c0
 clear c0 c1 f0 f1;have hwv:Ext w v9:=hwZ.trans hE9
 by_cases hbadE:p<d.length∨zan m≠0
 ·have HF:∃x,ze3 d=.error x:=by
   rw[HDY.out];rcases hbadE with h|h
   ·exact⟨5,if_pos h⟩
   ·by_cases h5:p<d.length
    ·exact⟨5,if_pos h5⟩
    ·exact⟨zan m,by rw[if_neg h5,if_neg h]⟩
  obtain⟨x5,hx5⟩:=HF
  have HF:=Lib.hid hx5
  clear hx5;by_cases hpl:p<d.length
  ·have hpi:(p:Int)<(d.length:Int):=by omega
   clear hbadE;go_upto_region 34 with fail
   refine wp_region_lit ?_
   repeat(first
    |(refine Go.wpList_store_rowTo rfl 45 (.tmp 2) (.tmp 142) rfl rfl w.heap.size zbt rfl rfl 45 _ r09 (by kernel_rfl) rfl (by kernel_rfl) ?_)
    |go_step)
   (try simp only[Exit.inBlock,Exit.then])
   refine bodyPost_ret (zau rfl _ _ w.heap.size _ _ _ _ rfl (setRow_heap v9 w.heap.size _ _ _ _ r09) Tryz.underlying45 rfl (by kernel_rfl)) rfl ?_
   exact⟨.inl ⟨5,x5,by decide,HF.out,rfl⟩,Below.grown hwv (zag v9 _ _) hwv.size (fun k hk=>by injection hk with hk;omega)⟩
  ·have hpi:¬(p:Int)<(d.length:Int):=by omega
   have hen:zan m≠0:=by rcases hbadE with h|h;exact absurd h hpl;exact h
   have g2:((zan m:Int)==0)=false:=zbq hen
   have g3:((zan m:Int)!=0)=true:=by rw[bne,g2];rfl
   clear hbadE hen;go_upto_region 34 with fail
   refine wp_region_lit ?_
   repeat(first
    |(refine Go.wpList_store_rowTo rfl 45 (.tmp 2) (.tmp 142) rfl rfl w.heap.size zbt rfl rfl 45 _ r09 (by kernel_rfl) rfl (by kernel_rfl) ?_)
    |go_step)
   (try simp only[Exit.inBlock,Exit.then])
   refine bodyPost_ret (zau rfl _ _ w.heap.size _ _ _ _ rfl (setRow_heap v9 w.heap.size _ _ _ _ r09) Tryz.underlying45 rfl (by kernel_rfl)) rfl ?_
   exact⟨.inl ⟨5,x5,by decide,HF.out,rfl⟩,Below.grown hwv (zag v9 _ _) hwv.size (fun k hk=>by injection hk with hk;omega)⟩
 have hpl:¬p<d.length:=fun h=>hbadE (.inl h)
 have hpi:¬(p:Int)<(d.length:Int):=by omega
 have hen:zan m=0:=by
  by_cases h:zan m=0
  ·exact h
  ·exact absurd (.inr h) hbadE
 have HF:=Lib.hid (show ze3 d=.ok m by rw[HDY.out,if_neg hpl,if_pos hen])
 rw[hen];clear hbadE hpl hen;go_upto_region 35 with fail
 obtain⟨qA',qc',hqe,_⟩:=HMO.qs
 obtain⟨aA,ac,rfl,_⟩:=HMO.ans
 obtain⟨uA,uc,rfl,_⟩:=HMO.auth
 obtain⟨xA,xc,rfl,_⟩:=HMO.extra
 obtain⟨oA,oc,rfl,_⟩:=HMO.opts
 subst hqe;refine wp_region_lit ?_
 repeat(first
  |(refine zaf (by rfl) 45 (.tmp 7) rfl g rfl _ (za4 m.hd (.slice qA' m.qs.length qc') (.slice aA m.ans.length ac) (.slice uA m.auth.length uc) (.slice xA m.extra.length xc) m.he m.ed (.slice oA m.ed.opts.length oc)) _ _ hbox9 Tryz.underlying45 rfl (by kernel_rfl) ?_)
  |(refine Go.wpList_store_rowTo rfl 45 (.tmp 2) (.tmp 143) rfl rfl w.heap.size (za4 m.hd (.slice qA' m.qs.length qc') (.slice aA m.ans.length ac) (.slice uA m.auth.length uc) (.slice xA m.extra.length xc) m.he m.ed (.slice oA m.ed.opts.length oc)) rfl rfl 45 _ r09 (by kernel_rfl) rfl (by kernel_rfl) ?_)
  |go_step)
 (try simp only[Exit.inBlock,Exit.then])
 refine bodyPost_ret (zau rfl _ _ w.heap.size _ _ _ _ rfl (setRow_heap v9 w.heap.size _ _ _ _ r09) Tryz.underlying45 rfl (by kernel_rfl)) rfl ?_
 have gr:=zag v9 w.heap.size (za4 m.hd (.slice qA' m.qs.length qc') (.slice aA m.ans.length ac) (.slice uA m.auth.length uc) (.slice xA m.extra.length xc) m.he m.ed (.slice oA m.ed.opts.length oc))
 refine⟨.inr ⟨m,_,_,_,_,_,HF.out,rfl,?_,HBd.out⟩,Below.grown hwv gr hwv.size (fun k hk=>by injection hk with hk;omega)⟩
 exact((HMO.by_ fun k h1 h2=>hE9.block k h2).by_ fun k h1 h2=>gr.block k h2 (fun e=>by injection e with e;omega)).lower (by omega)
end Go.Proofs.YtdnpmapelmjfpaaGreatDoor
