/- Lemmas of this claim. No condition. -/
import Derived.Test.YtdnpmapelmjfpaaGreatDoorProg
import Derived.WalkKit
import Derived.WalkLawsBesides
import Derived.WalkSpells
import Derived.Lib.Hide
import Derived.Outline
import Derived.LoopTactic
import Derived.Deep.QuietTactic
import Derived.BigQuiet
import Derived.Deep.DeepFit
import Derived.Laws.IdiomStrings
import Derived.Lib.SlBytesRow
import Derived.Deep.Draws
import Derived.Maps.AppendAt
import Derived.OwnWalk
import Derived.Lib.AppendStr
import Derived.Laws.AppendOwn
import Derived.Sort.Grow
set_option maxHeartbeats 400000
set_option linter.unusedVariables false
set_option linter.unusedSimpArgs false
set_option maxRecDepth 100000
namespace Go.Proofs.YtdnpmapelmjfpaaGreatDoor
open Go.RowKit
abbrev S (l:List UInt8):Value:=.string ⟨l.toArray⟩
def lowB (b:UInt8):UInt8:=if 65≤b.toNat∧b.toNat≤90 then b+32 else b
def low (l:List UInt8):List UInt8:=l.map lowB
def zjv:Nat→List UInt8→Option (List (List UInt8))
 |0,_=>none
 |_+1,[]=>none
 |n+1,b::r=>if b=0 then(if r=[]then some []else none)else if 63<b.toNat then none else(zjv n (r.drop b.toNat)).map (r.take b.toNat::·)
def zav (l:List UInt8):Option (List (List UInt8)):=zjv (l.length+1) l
theorem znd:∀(n m:Nat) (l:List UInt8),l.length<n→l.length<m→zjv n l=zjv m l
 |0,_,_,h,_=>absurd h (by omega)
 |_,0,_,_,h=>absurd h (by omega)
 |n+1,m+1,[],_,_=>rfl
 |n+1,m+1,b::r,h1,h2=>by
  simp only[List.length_cons]at h1 h2;simp only[zjv];rw[znd n m (r.drop b.toNat) (by simp;omega) (by simp;omega)]
theorem zbx:zav []=none:=rfl
theorem zbb (b:UInt8) (r:List UInt8):
 zav (b::r)=if b=0 then(if r=[]then some []else none)else if 63<b.toNat then none else(zav (r.drop b.toNat)).map (r.take b.toNat::·):=by
 unfold zav
 conv=>lhs;unfold zjv
 rw[znd (b::r).length ((r.drop b.toNat).length+1) (r.drop b.toNat) (by simp;omega) (by omega)]
def labelsOf (l:List UInt8):Option (List (List UInt8)):=if l.length≤255 then zav l else none
def may (l:List UInt8):Bool:=(labelsOf l).isSome
def fold (l:List UInt8):List UInt8:=if may l then low l else[]
def sameN (a b:List UInt8):Bool:=may a&&may b&&(low a==low b)
theorem zbg (l:List UInt8):(low l).length=l.length:=by simp[low]
theorem zFa:may []=false:=rfl
theorem zek {l:List UInt8} (h:may l=true):l.length≤255:=by
 unfold may labelsOf at h;split at h
 ·assumption
 ·simp at h
def be (l:List UInt8):Nat:=l.foldl (fun v b=>v*256+b.toNat) 0
theorem zw3 (l:List UInt8) (b:UInt8):be (l++[b])=be l*256+b.toNat:=by simp[be]
theorem zop (l:List UInt8):be l<256^l.length:=by
 rw[←List.reverse_reverse l];generalize l.reverse=r
 induction r with
 |nil=>simp[be]
 |cons b r ih=>
  rw[List.reverse_cons,zw3,List.length_append,List.length_singleton,Nat.pow_succ];have:=b.toNat_lt
  omega
theorem zat {α:Type} (l:List α) (k:Nat) (h:k<l.length):l.take (k+1)=l.take k++[l[k]]:=List.take_succ_eq_append_getElem h
theorem zAp (x c:Nat) (hc:c<256):x*256|||c=x*256+c:=by
 have:=Nat.shiftLeft_add_eq_or_of_lt (i:=8) (b:=c) hc x
 rw[Nat.shiftLeft_eq]at this;exact this.symm
theorem zvx (b:UInt8):wrap64 (b.toNat:Int)=(b.toNat:Int):=by
 have:=b.toNat_lt
 exact IntWalk.wrap64_in _ ⟨by omega,by omega⟩
theorem zcy (l:List UInt8):(ByteArray.mk l.toArray).size=l.length:=rfl
theorem zG8 (l:List UInt8) (k:Nat) (h:k<(ByteArray.mk l.toArray).size):(ByteArray.mk l.toArray)[k]=l[k]'(by rw[zcy]at h;exact h):=by
 simp[ByteArray.getElem_eq_getElem_data]
theorem zxk (l:List UInt8) (a b:Nat):(ByteArray.mk l.toArray).extract a b=⟨((l.drop a).take (b - a)).toArray⟩:=by
 apply ByteArray.ext;apply Array.toList_inj.1;rw[Lib.extract_data]
attribute [go_sem] zxk
theorem zp0 (a b:Nat) (ha:a<9223372036854775808) (hb:b<9223372036854775808):bits .or .i64 (a:Int) (b:Int)=((a|||b:Nat):Int):=by
 have hx:a|||b<2^63:=Nat.or_lt_two_pow (by omega) (by omega)
 show IntKind.i64.wrap ((BitVec.ofInt 64 (a:Int)|||BitVec.ofInt 64 (b:Int)).toNat:Int)=_
 rw[BitVec.toNat_or,ofInt_u64 a (by omega),ofInt_u64 b (by omega)]
 exact IntWalk.i64_in _ (by omega)
theorem zbu (l:List UInt8) (k:Nat) (h:k<l.length):∃b:UInt8,Hid (l[k]=b)∧(∀h',(ByteArray.mk l.toArray)[k]'h'=b)∧wrap64 (b.toNat:Int)=(b.toNat:Int)∧(b.toNat:Int)≤255:=
 ⟨l[k],rfl,fun h'=>zG8 l k h',zvx _,by have:=l[k].toNat_lt;omega⟩
theorem zar {a b:Bool} (h:a=b):Ending.returned (.bool a)=.returned (.bool b):=by rw[h]
theorem zmx {k:IntKind} {a b:Int} (h:a=b):Ending.returned (.int k a)=.returned (.int k b):=by rw[h]
theorem zcc (l:List UInt8) (k:Nat) (h:k<l.length):l.drop k=l[k]::l.drop (k+1):=by rw[List.drop_eq_getElem_cons h]
theorem zbm {n:Nat} (h:n≠0):((n:Int)==0)=false:=by rw[beq_eq_false_iff_ne];omega
abbrev Ext (w w':World):Prop:=Below w.heap.size w w'
theorem Ext.refl (w:World):Ext w w:=Below.refl _ _
theorem Ext.trans {a b c:World} (h:Ext a b) (k:Ext b c):Ext a c:=Below.trans h (k.mono h.size)
theorem Ext.drewN {a b:World} (h:Ext a b) (n:Nat):Ext a (b.drewN n):=⟨h.os,h.tape,h.output,h.size,h.block⟩
theorem Ext.of_drewN {a b:World} (n:Nat) (h:Ext (a.drewN n) b):Ext a b:=⟨h.os,h.tape,h.output,h.size,h.block⟩
theorem Ext.alloc {a w:World} (h:Ext a w) (o:Obj):Ext a (w.alloc o):=Below.alloc h h.size o
theorem Ext.drew {a w:World} (h:Ext a w):Ext a w.drew:=Below.drew h
theorem Ext.setCell {a w:World} (h:Ext a w) {p:Addr} (hp:a.heap.size≤p.block) (u:Value):Ext a (w.setCell p u):=Below.setCell h hp u
theorem xt {p:Prop} (h:p:=by(repeat(first|with_reducible exact Ext.refl _|with_reducible assumption|with_reducible refine Ext.alloc ?_ _|with_reducible refine Ext.drewN ?_ _|with_reducible refine Ext.drew ?_|(with_reducible refine Ext.setCell ?_ ?hp _;case hp=>(simp<;>omega))))):p:=h
theorem ap:(∀(a:Act) (d:Nat) (v:Value),a.put (some d) v={a with tmps:=a.tmps.setIfInBounds d v})∧(∀(a:Act) (v:Value),a.put none v=a)∧(∀{α:Type} (l:List α) (i:Nat) (a:α),l.toArray.setIfInBounds i a=(l.set i a).toArray)∧(∀{α:Type} {x y:α} {l:List α},(x::l).set 0 y=y::l)∧∀{α:Type} {x y:α} {l:List α} {n:Nat},(x::l).set (n+1) y=x::l.set n y:=⟨fun _ _ _=>rfl,fun _ _=>rfl,List.setIfInBounds_toArray,List.set_cons_zero,List.set_cons_succ⟩
theorem Z9 {α:Type} {xs:Array α} {i:Nat} {b:α} (h:xs[i]? =some b):i<xs.size:=(Array.getElem?_eq_some_iff.1 h).1
theorem Z8 {w w':World} {k:Nat} {o:Obj} (E:Ext w w') (h:w.heap[k]? =some o):w'.heap[k]? =some o:=(E.block _ (Z9 h)).trans h
theorem Z7 {p:Prop} (h:p):RowKit.Hid p:=Lib.hid h
theorem Z6 {α:Type} {l m:List α}:(l++m).length=l.length+m.length:=List.length_append
theorem Z5 (w:World):Ext w w:=Ext.refl w
theorem Z4 (n:Nat):n≤n:=Nat.le_refl n
theorem Z3 {α:Type} {l:List α} {i:Nat} (h:i<l.length):l[i]? =some l[i]:=List.getElem?_eq_getElem h
theorem Z2 {n m k:Nat}:n≤m→m≤k→n≤k:=Nat.le_trans
theorem Z1 {n m k:Nat}:n<m→m≤k→n<k:=Nat.lt_of_lt_of_le
theorem Ext.then {a b c:World} {lo:Nat} (h:Ext a b) (k:Below lo b c) (hl:a.heap.size≤lo):Ext a c:=Below.trans h (k.mono hl)
theorem zap {w w':World} {cs:Array Value} {t:TypeId} (hE:Ext (w.alloc (.cells cs t)) w'):(∀j,w'.cell? ⟨w.heap.size,j,none⟩=cs[j]?)∧(∀j,w'.frozen? ⟨w.heap.size,j,none⟩=false)∧w.heap.size<w'.heap.size:=by
 have hz:w.heap.size<(w.alloc (.cells cs t)).heap.size:=by simp
 refine⟨fun j=>?_,fun j=>?_,Z1 hz hE.size⟩
 ·rw[hE.cell (p:=⟨w.heap.size,j,none⟩) hz];exact World.cell?_alloc_mark w cs t _ j
 ·rw[hE.frozen (p:=⟨w.heap.size,j,none⟩) hz]
  have:(w.alloc (.cells cs t)).heap[w.heap.size]? =some (.cells cs t):=heap_alloc_new w _
  unfold World.frozen?;rw[this];simp
def Rd (w:World) (lo size:Nat) (A:Option Addr) (n:Nat) (xs:List Value):Prop:=
 xs.length=n*size∧(0<n→∃b off,A=some ⟨b,off,none⟩∧lo≤b∧b<w.heap.size∧∀j u,xs[j]? =some u→w.cell? ⟨b,off+j,none⟩=some u)
theorem Rd.keep {w w':World} {lo size n:Nat} {A:Option Addr} {xs:List Value} (h:Rd w lo size A n xs) (hs:w.heap.size≤w'.heap.size)
 (hk:∀b o,b<w.heap.size→lo≤b→w'.cell? ⟨b,o,none⟩=w.cell? ⟨b,o,none⟩):Rd w' lo size A n xs:=
 ⟨h.1,fun hn=>by
  obtain⟨b,off,e,ak,hb,hc⟩:=h.2 hn
  exact⟨b,off,e,ak,by omega,fun j u hu=>(hk _ _ hb ak).trans (hc j u hu)⟩⟩
theorem Rd.ext {w w':World} {lo size n:Nat} {A:Option Addr} {xs:List Value} (h:Rd w lo size A n xs) (hb:Ext w w'):Rd w' lo size A n xs:=
 h.keep hb.size fun _ _ ab _=>hb.cell (p:=⟨_,_,none⟩) ab
theorem Rd.lower {w:World} {lo lo' size n:Nat} {A:Option Addr} {xs:List Value} (h:Rd w lo size A n xs) (hl:lo'≤lo):Rd w lo' size A n xs:=
 ⟨h.1,fun hn=>by obtain⟨b,off,e,ak,hb,hc⟩:=h.2 hn;exact⟨b,off,e,by omega,hb,hc⟩⟩
theorem Rd.nil (w:World) (lo size:Nat) (A:Option Addr):Rd w lo size A 0 []:=⟨by simp,fun h=>absurd h (by omega)⟩
def BRow (w:World) (g n:Nat) (f:Nat→UInt8):Prop:=∀j,j<n→w.cell? ⟨g,j,none⟩=some (.int .u8 ((f j).toNat:Int))∧w.frozen? ⟨g,j,none⟩=false
theorem BRow.set {w:World} {g n:Nat} {f:Nat→UInt8} (h:BRow w g n f) {k:Nat} (hk:k<n) (b:UInt8) (x:Int) (hx:x=b.toNat):BRow (w.setCell ⟨g,k,none⟩ (.int .u8 x)) g n (fun j=>if j=k then b else f j):=by
 subst hx;intro j hj;obtain⟨h1,h2⟩:=h j hj
 obtain⟨h3,_⟩:=h k hk
 constructor
 ·by_cases e:j=k
  ·subst e;simp only[if_true];exact World.cell?_setCell_same w ⟨g,j,none⟩ _ h3
  ·simp only[if_neg e];rw[World.cell?_setCell_other w ⟨g,k,none⟩ ⟨g,j,none⟩ _ (fun h=>e (by injection h with _ h;exact h.symm)),h1]
 ·rw[World.frozen?_setCell];exact h2
theorem BRow.congr {w:World} {g n:Nat} {f f':Nat→UInt8} (h:BRow w g n f) (e:∀j,j<n→f' j=f j):BRow w g n f':=fun j hj=>by rw[e j hj];exact h j hj
def Strs (w:World) (lo:Nat) (v:Value) (l:List (List UInt8)):Prop:=
 ∃A c,v=.slice A l.length c∧l.length≤c∧c≤maxLen∧Rd w lo 1 A l.length (l.map S)
theorem Strs.ext {w w':World} {lo:Nat} {v:Value} {l:List (List UInt8)} (h:Strs w lo v l) (hb:Ext w w'):Strs w' lo v l:=by
 obtain⟨A,c,e,h1,h2,h3⟩:=h
 exact⟨A,c,e,h1,h2,h3.ext hb⟩
def Own (w:World) (lo:Nat) (e:TypeId) (sz:Nat) (A:Option Addr) (n c:Nat) (xs:List Value):Prop:=w.ownsRow lo e sz (.slice A n c) n xs
section
variable {w w' : World} {lo : Nat} {e : TypeId} {sz n c : Nat} {A : Option Addr} {xs : List Value}
theorem Own.nil (w:World) (lo:Nat) (e:TypeId) (sz:Nat):Own w lo e sz none 0 0 []:=World.ownsRow_nil w lo e sz
theorem Own.cap (h:Own w lo e sz A n c xs):n≤c∧c≤maxLen:=by
 rcases h.2 with⟨h1,_⟩|⟨g,cap,cur,h1,_,_,h4,h5,_⟩
 ·injection h1 with _ h2 h3;subst h2 h3;exact⟨Z4 _,by unfold maxLen;omega⟩
 ·injection h1 with _ _ h3;subst h3;exact⟨h4,h5⟩
theorem Own.rd (h:Own w lo e sz A n c xs):Rd w lo sz A n xs:=by
 refine⟨h.1,fun hn=>?_⟩
 rcases h.2 with⟨h1,h2⟩|⟨g,cap,cur,h1,hg,hh,h4,h5,h6,h7⟩
 ·omega
 ·injection h1 with h1 _ _
  refine⟨g,0,h1,hg,(Z9 hh),fun j u hu=>?_⟩
  have hj:j<n*sz:=by have:=(List.getElem?_eq_some_iff.1 hu).1;rw[h.1]at this;exact this
  rw[←h7,List.getElem?_take_of_lt hj]at hu;simp[World.cell?,hh,←hu]
theorem Own.ext (h:Own w lo e sz A n c xs) (hE:Ext w w'):Own w' lo e sz A n c xs:=by
 refine⟨h.1,?_⟩;rcases h.2 with h1|⟨g,cap,cur,h1,hg,hh,h4⟩
 ·exact .inl h1
 ·exact .inr ⟨g,cap,cur,h1,hg,(hE.block g (Z9 hh)).trans hh,h4⟩
theorem Own.set_other (h:Own w lo e sz A n c xs) {p:Addr} (hp:p.block<lo) (u:Value):Own (w.setCell p u) lo e sz A n c xs:=by
 refine⟨h.1,?_⟩;rcases h.2 with h1|⟨g,cap,cur,h1,hg,hh,h4⟩
 ·exact .inl h1
 ·exact .inr ⟨g,cap,cur,h1,hg,(Below.heap_setCell w p u g (by omega)).trans hh,h4⟩
theorem Own.drewN (h:Own w lo e sz A n c xs) (k:Nat):Own (w.drewN k) lo e sz A n c xs:=h
theorem Own.lower {lo':Nat} (h:Own w lo e sz A n c xs) (hl:lo'≤lo):Own w lo' e sz A n c xs:=by
 refine⟨h.1,?_⟩;rcases h.2 with h1|⟨g,cap,cur,h1,hg,hh,h4⟩
 ·exact .inl h1
 ·exact .inr ⟨g,cap,cur,h1,by omega,hh,h4⟩
theorem Own.blk (h:Own w lo e sz A n c xs):∀k,(Value.slice A n c).ownBlock=some k→lo≤k∧k<w.heap.size:=World.ownsRow.lt h
theorem Own.kept (h:Own w lo e sz A n c xs) {row:Option Nat} (hg:w.grownBy w' row) (au:(Value.slice A n c).ownBlock=none∨(Value.slice A n c).ownBlock≠row):Own w' lo e sz A n c xs:=World.ownsRow.kept h hg au
end
theorem znn {w:World} {lo:Nat} {e:TypeId} {sz n:Nat} {v:Value} {xs:List Value} (h:w.ownsRow lo e sz v n xs):∃A c,v=.slice A n c∧Own w lo e sz A n c xs:=by
 rcases h.2 with⟨h1,h2⟩|⟨g,cap,cur,h1,h2⟩
 ·subst h1 h2;exact⟨none,0,rfl,h⟩
 ·subst h1;exact⟨_,_,rfl,h⟩
theorem zdv (b off j:Nat):Addr.add ⟨b,off,none⟩ j=⟨b,off+j,none⟩:=by
 unfold Addr.add;split<;>simp_all
section
variable {P : Program} (w : World)
theorem zmz (lo:Nat) (t ty e:TypeId) (i:TypeInfo) (z:Value) (sz bytes:Nat) (ht:P.underlying t=some (.slice e)) (hi:P.info? e=some i) (hz:i.zero=some z)
 (a8:i.size=sz) (bw:i.bytes=bytes) (dM:z.cells.size=sz) (bH:0<sz)
 (A:Option Addr) (n c:Nat) (xs:List Value) (ag:Own w lo e sz A n c xs)
 (l2:Nat) (B:Option Addr) (m d:Nat) (news:List Value) (hr:Rd w l2 sz B m news) (h1:∀u∈news,u.oneCell'=true)
 (aY:(n+m)*bytes≤140737488355328) (gL:0<bytes) (br:lo≤w.heap.size):
 ∃A' c' w',(Builtin.append_ #[t,t] ty #[.slice A n c,.slice B m d]).run P w=.ok (.slice A' (n+m) c') w'∧Own w' lo e sz A' (n+m) c' (xs++news)∧w.grownBy w' (Value.slice A n c).ownBlock∧Below lo w w'∧
  ((Value.slice A' (n+m) c').ownBlock=(Value.slice A n c).ownBlock∨(Value.slice A' (n+m) c').ownBlock=some w.heap.size):=by
 have kM:n+m≤maxLen:=by
  have:(n+m)*1≤(n+m)*bytes:=Nat.mul_le_mul_left _ gL
  unfold maxLen;omega
 have cH:∀w',w.grownBy w' (Value.slice A n c).ownBlock→Below lo w w':=fun w' hg=>
  (Below.refl _ _).grown hg br (fun k hk=>(ag.blk k hk).1)
 by_cases hm:m=0
 ·subst hm;have hn:news=[]:=List.eq_nil_of_length_eq_zero (by simpa using hr.1)
  subst hn;refine⟨A,c,w,?_,by simpa using ag,World.grownBy.refl w _,cH w (World.grownBy.refl w _),.inl rfl⟩
  rcases ag.2 with⟨h1,h2⟩|⟨g,cap,cur,h1,_,_,qf,_⟩
  ·injection h1 with h1 _ h3
   subst h1 h2 h3;cases B<;>simp[Builtin.append_,run_underlying ht,sizeOf,typeInfo,hi,Builtin.lenOf,Builtin.firstCells,loadCells,loadCellsFrom]
  ·injection h1 with h1 _ h3
   subst h1 h3;cases B<;>simp[Builtin.append_,run_underlying ht,sizeOf,typeInfo,hi,Builtin.lenOf,Builtin.firstCells,qf,storeCells,loadCells,loadCellsFrom]
 ·obtain⟨b,off,rfl,_,_,hc⟩:=hr.2 (by omega)
  obtain⟨v',w',cC,h2,h3,_,h5⟩:=run_append_own_at (P:=P) w lo t ty e i z sz bytes ht hi hz a8 bw dM bH (.slice A n c) n xs ag ⟨b,off,none⟩ m d news hr.1 (fun j u hu=>by rw[zdv];exact hc j u hu) h1 kM aY br
  obtain⟨A',c',rfl,h6⟩:=znn h2
  exact⟨A',c',w',cC,h6,h3,cH w' h3,h5⟩
theorem zad {ops:Array Oper} {rest:List Oper} {o:Oper} {a:Act} {Q:Exit→Act→World→Prop} (gC:o.guard=none) (s x:Operand) (t:TypeId)
 (ho:o.op=.call {callee:=.builtin .append,args:= #[s,x],argTypes:= #[t,t]})
 (lo:Nat) (e:TypeId) (i:TypeInfo) (z:Value) (sz bytes:Nat) (ht:P.underlying t=some (.slice e)) (hi:P.info? e=some i) (hz:i.zero=some z)
 (a8:i.size=sz) (bw:i.bytes=bytes) (dM:z.cells.size=sz) (bH:0<sz)
 (A:Option Addr) (n c:Nat) (xs:List Value) (hs:a.eval s=.slice A n c) (ag:Own w lo e sz A n c xs)
 (l2:Nat) (B:Option Addr) (m d:Nat) (news:List Value) (hx:a.eval x=.slice B m d) (hr:Rd w l2 sz B m news) (h1:∀u∈news,u.oneCell'=true)
 (aY:(n+m)*bytes≤140737488355328) (gL:0<bytes) (br:lo≤w.heap.size)
 (h:∀A' c' w',Own w' lo e sz A' (n+m) c' (xs++news)→w.grownBy w' (Value.slice A n c).ownBlock→Below lo w w'→
  ((Value.slice A' (n+m) c').ownBlock=(Value.slice A n c).ownBlock∨(Value.slice A' (n+m) c').ownBlock=some w.heap.size)→wpList P ops Q rest (a.put o.dst (.slice A' (n+m) c')) w'):wpList P ops Q (o::rest) a w:=
 wpList_plain gC fun K hK=>by
  obtain⟨A',c',w',cC,h2,h3,h4,h5⟩:=zmz (P:=P) w lo t o.type e i z sz bytes ht hi hz a8 bw dM bH A n c xs ag l2 B m d news hr h1 aY gL br
  unfold Oper.wp execOp;simp only[ho,resolve,invoke,builtin,Sem.run_bind,Sem.run_pure,Result.andThen_ok,List.map_toArray,List.map_cons,List.map_nil,hs,hx,cC];exact hK _ _ (h A' c' w' h2 h3 h4 h5)
theorem zbh {ops:Array Oper} {rest:List Oper} {o:Oper} {a:Act} {Q:Exit→Act→World→Prop} (gC:o.guard=none) (s x:Operand) (t u:TypeId)
 (ho:o.op=.call {callee:=.builtin .append,args:= #[s,x],argTypes:= #[t,u]})
 (lo:Nat) (e:TypeId) (i:TypeInfo) (ht:P.underlying t=some (.slice e)) (hu:P.underlying u=some .string) (hi:P.info? e=some i) (hz:i.zero=some (.int .u8 0))
 (a8:i.size=1) (bw:i.bytes=1)
 (A:Option Addr) (n c:Nat) (xs:List Value) (hs:a.eval s=.slice A n c) (ag:Own w lo e 1 A n c xs)
 (l:List UInt8) (hx:a.eval x=S l)
 (aY:n+l.length≤140737488355328) (br:lo≤w.heap.size)
 (h:∀A' c' w',Own w' lo e 1 A' (n+l.length) c' (xs++l.map fun b=>Value.int .u8 b.toNat)→w.grownBy w' (Value.slice A n c).ownBlock→Below lo w w'→wpList P ops Q rest (a.put o.dst (.slice A' (n+l.length) c')) w'):wpList P ops Q (o::rest) a w:=
 wpList_plain gC fun K hK=>by
  obtain⟨v',w',cC,h2,h3,_⟩:=Lib.run_append_own_string (P:=P) w lo t u o.type e i ht hu hi hz a8 bw (.slice A n c) n xs ag ⟨l.toArray⟩ (by rw[zcy];unfold maxLen;omega) (by rw[zcy];omega) br
  rw[zcy]at h2;obtain⟨A',c',rfl,h6⟩:=znn h2
  unfold Oper.wp execOp;simp only[ho,resolve,invoke,builtin,Sem.run_bind,Sem.run_pure,Result.andThen_ok,List.map_toArray,List.map_cons,List.map_nil,hs,hx,cC];exact hK _ _ (h A' c' w' (by simpa[Lib.strCells]using h6) h3 ((Below.refl _ _).grown h3 br (fun k hk=>(ag.blk k hk).1)))
end
abbrev U8 (b:UInt8):Value:=.int .u8 b.toNat
theorem zqf (w:World) (lo:Nat) (t:TypeId) (u:Value) (ak:lo≤w.heap.size):Rd (w.alloc (.cells #[u] t)) lo 1 (some ⟨w.heap.size,0,none⟩) 1 [u]:=by
 refine⟨rfl,fun _=>⟨w.heap.size,0,rfl,ak,by simp,fun j x hx=>?_⟩⟩
 rcases j with _|j
 ·simp at hx;subst hx;simp
 ·simp at hx
theorem zfa:(Tryz.prog.info? 5).map (fun i=>(i.zero,i.size,i.bytes))=some (some (.int .u8 0),1,1):=by kernel_rfl
theorem zeb {w:World} {lo n:Nat} {A:Option Addr} (c:Nat) {l:List UInt8} (h:Rd w lo 1 A n (l.map U8)):
 (convert 110 9 (.slice A n c)).run Tryz.prog w=.ok (S l) w:=by
 have hn:l.length=n:=by have:=h.1;simpa using this
 subst hn;by_cases h0:l.length=0
 ·have:l=[]:=List.eq_nil_of_length_eq_zero h0
  subst this;rw[run_convert_bytes_string w 110 9 5 A _ c Tryz.underlying110 Tryz.underlying5 Tryz.underlying9];cases A<;>simp[Conv.bytesToString,loadCells,loadCellsFrom]<;>rfl
 ·obtain⟨b,off,rfl,_,_,hc⟩:=h.2 (by omega)
  exact run_convert_bytes_back (P:=Tryz.prog) w 110 9 5 ⟨b,off,none⟩ c l Tryz.underlying110 Tryz.underlying5 Tryz.underlying9 (fun j hj=>by
   rw[zdv];exact hc j _ (by simp[Z3 hj]))
section
variable {P : Program} (w : World)
end
section
variable {P : Program} (w : World)
theorem zs7 (lo:Nat) (t ty e:TypeId) (i:TypeInfo) (z:Value) (sz bytes:Nat) (ht:P.underlying t=some (.slice e)) (hi:P.info? e=some i) (hz:i.zero=some z)
 (a8:i.size=sz) (bw:i.bytes=bytes) (dM:z.cells.size=sz)
 (A:Option Addr) (n c:Nat) (xs:List Value) (ag:Own w lo e sz A n c xs)
 (l2:Nat) (B:Option Addr) (m d:Nat) (news:List Value) (hr:Rd w l2 sz B m news) (h1:∀u∈news,u.oneCell'=true) (hm:0<m)
 (aY:(n+m)*bytes≤140737488355328) (gL:0<bytes) (v':Value) (w':World)
 (cC:(Builtin.append_ #[t,t] ty #[.slice A n c,.slice B m d]).run P w=.ok v' w'):w.drawn≤w'.drawn:=by
 have kM:n+m≤maxLen:=by
  have:(n+m)*1≤(n+m)*bytes:=Nat.mul_le_mul_left _ gL
  unfold maxLen;omega
 have yZ:n+m≤9223372036854775807:=by simp only[maxLen]at kM;omega
 obtain⟨b,off,rfl,_,_,hc⟩:=hr.2 (by omega)
 have fL:∀j u,news[j]? =some u→w.cell? (Addr.add ⟨b,off,none⟩ j)=some u:=fun j u hu=>by rw[zdv];exact hc j u hu
 subst a8;subst bw;rcases ag.2 with⟨e1,e2⟩|⟨g,cap,cur,e1,jy,hg,qf,iU,eK,htake⟩
 ·injection e1 with e1 _ e3
  have hx:xs=[]:=List.eq_nil_of_length_eq_zero (by have:=ag.1;rw[e2]at this;simpa using this)
  subst e1 e2 e3 hx;have eM:=run_append_nil (P:=P) w t ty e i z ht hi hz ⟨b,off,none⟩ m d news hr.1 fL (by omega) (by omega) (by have hb:=aY;simp only[Nat.zero_add]at hb;omega)
  rw[cC]at eM;injection eM with _ hw
  rw[hw];show w.drawn≤w.drawn+1
  omega
 ·injection e1 with e1 _ e3
  subst e1 e3;by_cases gM:n+m≤c
  ·have gN:n*i.size+news.length≤cur.size:=by rw[hr.1,eK,←Nat.add_mul];exact Nat.mul_le_mul_right _ gM
   have eM:=run_append_room (P:=P) w t ty e i ht hi g n c cur hg ⟨b,off,none⟩ m d news hr.1 fL h1 gM gN
   rw[cC]at eM;injection eM with _ hw
   rw[hw];exact Z4 _
  ·have lh:∀j u,xs[j]? =some u→w.cell? ((⟨g,0,none⟩:Addr).add j)=some u:=World.ownsRow.cells ag (g:=g) rfl
   have eM:=run_append_grow (P:=P) w t ty e i z ht hi hz ⟨g,0,none⟩ n c xs ag.1 lh ⟨b,off,none⟩ m d news hr.1 fL (by omega) (by omega) (growslice_fits (by omega) aY)
   rw[cC]at eM;injection eM with _ hw
   rw[hw];show w.drawn≤w.drawn+1
   omega
theorem zvv {ops:Array Oper} {rest:List Oper} {o:Oper} {a:Act} {Q:Exit→Act→World→Prop} (gC:o.guard=none) (s x:Operand) (t:TypeId)
 (ho:o.op=.call {callee:=.builtin .append,args:= #[s,x],argTypes:= #[t,t]})
 (lo:Nat) (e:TypeId) (i:TypeInfo) (z:Value) (sz bytes:Nat) (ht:P.underlying t=some (.slice e)) (hi:P.info? e=some i) (hz:i.zero=some z)
 (a8:i.size=sz) (bw:i.bytes=bytes) (dM:z.cells.size=sz) (bH:0<sz)
 (A:Option Addr) (n c:Nat) (xs:List Value) (hs:a.eval s=.slice A n c) (ag:Own w lo e sz A n c xs)
 (l2:Nat) (B:Option Addr) (m d:Nat) (news:List Value) (hx:a.eval x=.slice B m d) (hr:Rd w l2 sz B m news) (h1:∀u∈news,u.oneCell'=true) (hm:0<m)
 (aY:(n+m)*bytes≤140737488355328) (gL:0<bytes) (br:lo≤w.heap.size)
 (h:∀A' c' w',Own w' lo e sz A' (n+m) c' (xs++news)→w.drawn≤w'.drawn→w.grownBy w' (Value.slice A n c).ownBlock→Below lo w w'→
  ((Value.slice A' (n+m) c').ownBlock=(Value.slice A n c).ownBlock∨(Value.slice A' (n+m) c').ownBlock=some w.heap.size)→wpList P ops Q rest (a.put o.dst (.slice A' (n+m) c')) w'):wpList P ops Q (o::rest) a w:=
 wpList_plain gC fun K hK=>by
  obtain⟨A',c',w',cC,h2,h3,h4,h5⟩:=zmz (P:=P) w lo t o.type e i z sz bytes ht hi hz a8 bw dM bH A n c xs ag l2 B m d news hr h1 aY gL br
  have h6:=zs7 (P:=P) w lo t o.type e i z sz bytes ht hi hz a8 bw dM A n c xs ag l2 B m d news hr h1 hm aY gL _ w' cC
  unfold Oper.wp execOp;simp only[ho,resolve,invoke,builtin,Sem.run_bind,Sem.run_pure,Result.andThen_ok,List.map_toArray,List.map_cons,List.map_nil,hs,hx,cC];exact hK _ _ (h A' c' w' h2 h6 h3 h4 h5)
end
def ExtD (w w':World):Prop:=Ext w w'∧w.drawn≤w'.drawn
theorem ExtD.refl (w:World):ExtD w w:=⟨Z5 w,Z4 _⟩
theorem ExtD.trans {a b c:World} (h:ExtD a b) (k:ExtD b c):ExtD a c:=⟨h.1.trans k.1,Z2 h.2 k.2⟩
theorem ExtD.alloc {a w:World} (h:ExtD a w) (o:Obj):ExtD a (w.alloc o):=⟨h.1.alloc o,h.2⟩
theorem ExtD.drew {a w:World} (h:ExtD a w):ExtD a w.drew:=⟨h.1.drew,Z2 h.2 (by show w.drawn≤w.drawn+1;omega)⟩
theorem ExtD.drewN {a w:World} (h:ExtD a w) (n:Nat):ExtD a (w.drewN n):=⟨h.1.drewN n,Z2 h.2 (by show w.drawn≤w.drawn+n;omega)⟩
theorem ExtD.setCell {a w:World} (h:ExtD a w) {p:Addr} (hp:a.heap.size≤p.block) (u:Value):ExtD a (w.setCell p u):=⟨h.1.setCell hp u,h.2⟩
theorem ExtD.then {a b c:World} {lo:Nat} (h:ExtD a b) (k:Below lo b c) (hd:b.drawn≤c.drawn) (hl:a.heap.size≤lo):ExtD a c:=⟨h.1.then k hl,Z2 h.2 hd⟩
theorem ExtD.grow {w w':World} (h:ExtD w w'):∃q os,w'=Go.Sort.grow (w.drewN q) os:=by
 refine⟨w'.drawn - w.drawn,w'.heap.extract w.heap.size w'.heap.size,?_⟩;obtain⟨h1,h2⟩:=h
 have hh:w'.heap=w.heap++w'.heap.extract w.heap.size w'.heap.size:=by
  apply Array.ext_getElem?;intro k;rcases Nat.lt_or_ge k w.heap.size with hk|hk
  ·rw[Array.getElem?_append_left hk];exact h1.block k hk
  ·rw[Array.getElem?_append_right hk,Array.getElem?_extract];have:=h1.size
   split
   ·congr 1;omega
   ·rw[Array.getElem?_eq_none (by omega)]
 have hd:w.drawn+(w'.drawn - w.drawn)=w'.drawn:=by omega
 obtain⟨hp,tp,dr,os,ou⟩:=w'
 have e1:=h1.os
 have e2:=h1.tape
 have e3:=h1.output
 dsimp only at*;subst e1 e2 e3;simp only[Go.Sort.grow,World.drewN,World.mk.injEq,and_true,true_and];exact⟨hh,hd.symm⟩
section
variable {P : Program} (w : World)
end
end Go.Proofs.YtdnpmapelmjfpaaGreatDoor
namespace Go.Proofs.YtdnpmapelmjfpaaGreatDoor
structure RdSt where
 pos:Nat
 lim:Nat
 nx:Option Nat
 out:List UInt8
def zbr (msg:List UInt8):Nat→RdSt→List UInt8×Nat×Nat
 |0,_=>([],0,0)
 |n+1,s=>
  match msg[s.pos]? with
  |none=>([],0,4)
  |some b=>
   if b=0 then(s.out++[0],s.nx.getD (s.pos+1),0)
   else if b.toNat<64 then
    if msg.length<s.pos+1+b.toNat then([],0,4)
    else if 255<s.out.length+1+b.toNat+1 then([],0,5)
    else zbr msg n ⟨s.pos+1+b.toNat,s.lim,s.nx,s.out++b::(msg.drop (s.pos+1)).take b.toNat⟩
   else if b.toNat<192 then([],0,3)
   else match msg[s.pos+1]? with
    |none=>([],0,4)
    |some c=>
     if s.lim≤(b.toNat - 192)*256+c.toNat then([],0,8)
     else zbr msg n ⟨(b.toNat - 192)*256+c.toNat,(b.toNat - 192)*256+c.toNat,some (s.nx.getD (s.pos+2)),s.out⟩
def RdSt.meas (s:RdSt):Nat:=s.lim*300+(256 - s.out.length)
theorem zhf {lim len to n:Nat} (h:¬lim≤to) (h1:lim*300+(256 - len)<n+1):to*300+(256 - len)<n:=by omega
theorem zpa (msg:List UInt8) (n:Nat):∀(m:Nat) (s:RdSt),s.meas<n→s.meas<m→zbr msg n s=zbr msg m s:=by
 induction n with
 |zero=>intro _ _ h _;exact absurd h (by omega)
 |succ n ih=>
  intro m s h1 h2;rcases m with _|m
  ·exact absurd h2 (by omega)
  simp only[zbr];split
  ·rfl
  ·rename_i b hb;split
   ·rfl
   ·split
    ·split
     ·rfl
     ·split
      ·rfl
      ·rename_i h0 t7 hl nc;have aq:((msg.drop (s.pos+1)).take b.toNat).length=b.toNat:=by simp;omega
       have cQ:0<b.toNat:=Nat.pos_of_ne_zero (fun e=>h0 (UInt8.toNat_inj.1 (by simpa using e)))
       refine ih m _ ?_ ?_<;>(simp only[RdSt.meas,Z6,List.length_cons,aq]at*;omega)
    ·split
     ·rfl
     ·split
      ·rfl
      ·split
       ·rfl
       ·rename_i h4;generalize (b.toNat - 192)*256+_=to at h4 ⊢;exact ih m _ (zhf h4 h1) (zhf h4 h2)
def zbc (msg:List UInt8) (s:RdSt):List UInt8×Nat×Nat:=zbr msg (s.meas+1) s
def readN (msg:List UInt8) (pos:Nat):List UInt8×Nat×Nat:=zbc msg ⟨pos,pos,none,[]⟩
section
variable (msg : List UInt8) (s : RdSt)
theorem zmb (h:msg[s.pos]? =none):zbc msg s=([],0,4):=by unfold zbc zbr;rw[h]
theorem zgk (h:msg[s.pos]? =some 0):zbc msg s=(s.out++[0],s.nx.getD (s.pos+1),0):=by unfold zbc zbr;rw[h];rfl
variable (b : UInt8)
theorem zny (h0:b.toNat≠0) (e:b=0):False:=h0 (by rw[e];rfl)
variable (h : msg[s.pos]? = some b) (h0 : b.toNat ≠ 0)
include h h0
theorem zji (h1:b.toNat<64) (h2:msg.length<s.pos+1+b.toNat):zbc msg s=([],0,4):=by
 unfold zbc zbr;simp only[h];rw[if_neg (zny b h0),if_pos h1,if_pos h2]
theorem zkw (h1:b.toNat<64) (h2:¬msg.length<s.pos+1+b.toNat) (h3:255<s.out.length+1+b.toNat+1):zbc msg s=([],0,5):=by
 unfold zbc zbr;simp only[h];rw[if_neg (zny b h0),if_pos h1,if_neg h2,if_pos h3]
theorem zh2 (h1:b.toNat<64) (h2:¬msg.length<s.pos+1+b.toNat) (h3:¬255<s.out.length+1+b.toNat+1):
 zbc msg s=zbc msg ⟨s.pos+1+b.toNat,s.lim,s.nx,s.out++b::(msg.drop (s.pos+1)).take b.toNat⟩:=by
 have aq:((msg.drop (s.pos+1)).take b.toNat).length=b.toNat:=by simp;omega
 unfold zbc
 conv=>lhs;unfold zbr
 simp only[h];rw[if_neg (zny b h0),if_pos h1,if_neg h2,if_neg h3];refine zpa msg _ _ _ ?_ ?_<;>(simp only[RdSt.meas,Z6,List.length_cons,aq]at*;omega)
theorem zku (h1:¬b.toNat<64) (h2:b.toNat<192):zbc msg s=([],0,3):=by
 unfold zbc zbr;simp only[h];rw[if_neg (zny b h0),if_neg h1,if_pos h2]
theorem zma (h1:¬b.toNat<192) (h2:msg[s.pos+1]? =none):zbc msg s=([],0,4):=by
 unfold zbc zbr;simp only[h];rw[if_neg (zny b h0),if_neg (by omega),if_neg h1,h2]
theorem zkx (h1:¬b.toNat<192) (c:UInt8) (h2:msg[s.pos+1]? =some c) (h3:s.lim≤(b.toNat - 192)*256+c.toNat):zbc msg s=([],0,8):=by
 unfold zbc zbr;simp only[h];rw[if_neg (zny b h0),if_neg (by omega),if_neg h1,h2];simp only;rw[if_pos h3]
theorem zkv (h1:¬b.toNat<192) (c:UInt8) (h2:msg[s.pos+1]? =some c) (h3:¬s.lim≤(b.toNat - 192)*256+c.toNat):
 zbc msg s=zbc msg ⟨(b.toNat - 192)*256+c.toNat,(b.toNat - 192)*256+c.toNat,some (s.nx.getD (s.pos+2)),s.out⟩:=by
 unfold zbc
 conv=>lhs;unfold zbr
 simp only[h];rw[if_neg (zny b h0),if_neg (by omega),if_neg h1,h2]
 simp only;rw[if_neg h3];generalize (b.toNat - 192)*256+c.toNat=to at h3 ⊢;exact zpa msg _ _ _ (zhf h3 (Nat.lt_succ_self _)) (Nat.lt_succ_self _)
end
structure Pc where
 text:List UInt8
 nm:Bool
 next:Nat
def Pc.cells (p:Pc):List Value:=[S p.text,.bool p.nm,.int .i64 p.next]
def Pc.zero:Pc:=⟨[],false,0⟩
structure Chk where
 kind:Nat
 n:Nat
def zk9:Nat→List UInt8→Bool
 |0,_=>false
 |_+1,[]=>false
 |n+1,b::r=>if r.length<b.toNat then false else if r.length=b.toNat then true else zk9 n (r.drop b.toNat)
def zbq (l:List UInt8):Bool:=zk9 (l.length+1) l
theorem zvr (n:Nat):∀(m:Nat) (l:List UInt8),l.length<n→l.length<m→zk9 n l=zk9 m l:=by
 induction n with
 |zero=>intro _ _ h _;exact absurd h (by omega)
 |succ n ih=>
  intro m l h1 h2;rcases m with _|m
  ·exact absurd h2 (by omega)
  rcases l with _|⟨b,r⟩
  ·rfl
  ·simp only[List.length_cons]at h1 h2;simp only[zk9];rw[ih m (r.drop b.toNat) (by simp;omega) (by simp;omega)]
theorem zmj (b:UInt8) (r:List UInt8):zbq (b::r)=if r.length<b.toNat then false else if r.length=b.toNat then true else zbq (r.drop b.toNat):=by
 unfold zbq
 conv=>lhs;unfold zk9
 rw[zvr (b::r).length ((r.drop b.toNat).length+1) (r.drop b.toNat) (by simp;omega) (by omega)]
def zaa (c:Chk) (msg:List UInt8) (pos:Nat):Pc×Nat:=
 match c.kind with
 |0=>if msg.length - pos<c.n then(Pc.zero,4)else(⟨(msg.drop pos).take c.n,false,pos+c.n⟩,0)
 |1=>if(readN msg pos).2.2≠0 then(Pc.zero,(readN msg pos).2.2)else(⟨(readN msg pos).1,true,(readN msg pos).2.1⟩,0)
 |2=>if zbq (msg.drop pos)then(⟨msg.drop pos,false,msg.length⟩,0)else(Pc.zero,4)
 |_=>(⟨msg.drop pos,false,msg.length⟩,0)
def checksOf (kind:Int):List Chk:=
 if kind=1 then[⟨0,4⟩]
 else if kind=28 then[⟨0,16⟩]
 else if kind=2∨kind=5∨kind=12 then[⟨1,0⟩]
 else if kind=15 then[⟨0,2⟩,⟨1,0⟩]
 else if kind=6 then[⟨1,0⟩,⟨1,0⟩,⟨0,20⟩]
 else if kind=33 then[⟨0,6⟩,⟨1,0⟩]
 else if kind=16 then[⟨2,0⟩]
 else[⟨3,0⟩]
def zab:List Chk→List UInt8→Nat→List Pc×Nat
 |[],msg,pos=>if pos<msg.length then([],3)else([],0)
 |c::cs,msg,pos=>
  if(zaa c msg pos).2≠0 then([],(zaa c msg pos).2)
  else if(zab cs msg (zaa c msg pos).1.next).2≠0 then([],(zab cs msg (zaa c msg pos).1.next).2)
  else((zaa c msg pos).1::(zab cs msg (zaa c msg pos).1.next).1,0)
def splitOf (msg:List UInt8) (pos:Nat) (kind:Int):List Pc×Nat:=if kind=41 then([],3)else zab (checksOf kind) msg pos
def textOf (l:List Pc):List UInt8:=l.flatMap Pc.text
def zbk (kind:Int) (data:List UInt8):Option (List Pc):=
 if(splitOf data 0 kind).2=0∧textOf (splitOf data 0 kind).1=data then some (splitOf data 0 kind).1 else none
def rmay (kind:Int) (data:List UInt8):Bool:=(zbk kind data).isSome
def partsOf (kind:Int) (data:List UInt8):List Pc:=(zbk kind data).getD []
def rnames (kind:Int) (data:List UInt8):List (List UInt8):=((partsOf kind data).filter Pc.nm).map Pc.text
def rfold (kind:Int) (data:List UInt8):List UInt8:=(partsOf kind data).flatMap fun p=>if p.nm then fold p.text else p.text
theorem znf (b:UInt8) (r:List UInt8) (h0:b.toNat≠0) (h:b.toNat<64):(zav (b::r)).isSome=(zav (r.drop b.toNat)).isSome:=by
 rw[zbb,if_neg (fun e=>h0 (by rw[e];rfl)),if_neg (by omega),Option.isSome_map]
theorem zjj (msg:List UInt8):∀(m:Nat) (s:RdSt),s.meas<m→(∀t,(zav (s.out++t)).isSome=(zav t).isSome)→s.out.length≤254→(zbc msg s).2.2=0→may (zbc msg s).1=true∧(zbc msg s).1.length≤255
 |0,_,h,_,_,_=>absurd h (by omega)
 |m+1,s,hm,hpre,aq,he=>by
  rcases hb:msg[s.pos]? with _|b
  ·rw[zmb msg s hb]at he;simp at he
  by_cases h0:b.toNat=0
  ·have hz:b=0:=UInt8.toNat_inj.1 (by simpa using h0)
   subst hz;rw[zgk msg s hb];have hl:(s.out++[0]).length≤255:=by simp;omega
   refine⟨?_,hl⟩;show may (s.out++[0])=true
   unfold may labelsOf;rw[if_pos hl,hpre];rfl
  by_cases h1:b.toNat<64
  ·by_cases h2:msg.length<s.pos+1+b.toNat
   ·rw[zji msg s b hb h0 h1 h2]at he;simp at he
   by_cases h3:255<s.out.length+1+b.toNat+1
   ·rw[zkw msg s b hb h0 h1 h2 h3]at he;simp at he
   rw[zh2 msg s b hb h0 h1 h2 h3]at he ⊢;have hl:((msg.drop (s.pos+1)).take b.toNat).length=b.toNat:=by simp;omega
   refine zjj msg m _ ?_ ?_ ?_ he
   ·simp only[RdSt.meas,Z6,List.length_cons,hl]at*;omega
   ·intro t;show(zav (s.out++b::(msg.drop (s.pos+1)).take b.toNat++t)).isSome=_
    rw[List.append_assoc,hpre,List.cons_append,znf b _ h0 h1,List.drop_append_of_le_length (by omega),List.drop_of_length_le (by omega),List.nil_append]
   ·show(s.out++b::(msg.drop (s.pos+1)).take b.toNat).length≤254
    rw[Z6,List.length_cons,hl];omega
  by_cases h2:b.toNat<192
  ·rw[zku msg s b hb h0 h1 h2]at he;simp at he
  rcases hc:msg[s.pos+1]? with _|c
  ·rw[zma msg s b hb h0 h2 hc]at he;simp at he
  by_cases h3:s.lim≤(b.toNat - 192)*256+c.toNat
  ·rw[zkx msg s b hb h0 h2 c hc h3]at he;simp at he
  rw[zkv msg s b hb h0 h2 c hc h3]at he ⊢;generalize (b.toNat - 192)*256+c.toNat=to at*;exact zjj msg m _ (zhf h3 hm) hpre aq he
theorem zni {msg:List UInt8} {pos:Nat} (h:(readN msg pos).2.2=0):may (readN msg pos).1=true:=
 (zjj msg _ _ (Nat.lt_succ_self _) (fun _=>rfl) (by simp) h).1
theorem znj (msg n:List UInt8) (p:Nat) (hn:(msg.drop p).take n.length=n) (hl:n.length≤255) (lim:Nat) (nx:Option Nat):∀(m k:Nat),n.length - k<m→k≤n.length→(zav (n.drop k)).isSome=true→
 zbc msg ⟨p+k,lim,nx,n.take k⟩=(n,nx.getD (p+n.length),0)
 |0,_,h,_,_=>absurd h (by omega)
 |m+1,k,hm,hk,hp=>by
  have jz:∀j,j<n.length→msg[p+j]? =n[j]? :=fun j hj=>by
   conv=>rhs;rw[←hn]
   rw[List.getElem?_take_of_lt hj,List.getElem?_drop]
  have o7:p+n.length≤msg.length:=by
   have:=congrArg List.length hn
   rw[List.length_take,List.length_drop]at this;rcases Nat.eq_zero_or_pos n.length with h|h
   ·rw[List.eq_nil_of_length_eq_zero h]at hp;simp[zbx]at hp
   ·omega
  by_cases ab:k<n.length
  ·have hd:=zcc n k ab
   have hb:msg[p+k]? =some n[k]:=by rw[jz k ab];exact Z3 ab
   generalize o8:n[k]=b at*;by_cases h0:b.toNat=0
   ·have hz:b=0:=UInt8.toNat_inj.1 (by simpa using h0)
    subst hz;rw[hd,zbb,if_pos rfl]at hp;have he:n.drop (k+1)=[]:=by
     by_cases e:n.drop (k+1)=[]
     ·exact e
     ·rw[if_neg e]at hp;simp at hp
    have iC:n.length=k+1:=by
     have:=congrArg List.length he
     simp at this;omega
    rw[zgk msg _ (by exact hb)]
    have:n.take k++[0]=n:=by
     conv=>rhs;rw[←List.take_append_drop k n,hd,he]
    simp only[this,iC];rfl
   ·by_cases h1:b.toNat<64
    ·have li:=hp
     rw[hd,znf b _ h0 h1,List.drop_drop]at li;have ce:k+1+b.toNat<n.length:=by
      rcases Nat.lt_or_ge (k+1+b.toNat) n.length with h|h
      ·exact h
      ·rw[List.drop_of_length_le h]at li;simp[zbx]at li
     rw[zh2 msg _ b (by exact hb) h0 h1 (by show ¬msg.length<p+k+1+b.toNat;omega) (by show ¬255<(n.take k).length+1+b.toNat+1;rw[List.length_take];omega)]
     have e1:(⟨p+k+1+b.toNat,lim,nx,n.take k++b::(msg.drop (p+k+1)).take b.toNat⟩:RdSt)=⟨p+(k+1+b.toNat),lim,nx,n.take (k+1+b.toNat)⟩:=by
      have e2:n.take (k+1+b.toNat)=n.take k++b::(msg.drop (p+k+1)).take b.toNat:=by
       apply List.ext_getElem?;intro j;rcases Nat.lt_or_ge j (k+1+b.toNat)with h|h
       ·rw[List.getElem?_take_of_lt h];rcases Nat.lt_or_ge j k with h'|h'
        ·rw[List.getElem?_append_left (by rw[List.length_take];omega),List.getElem?_take_of_lt h']
        ·rw[List.getElem?_append_right (by rw[List.length_take];omega),List.length_take,Nat.min_eq_left (by omega)]
         rcases Nat.eq_or_lt_of_le h' with h''|h''
         ·subst h'';simp[Z3 ab,o8]
         ·rw[show j - k=(j - k - 1)+1 by omega,List.getElem?_cons_succ,List.getElem?_take_of_lt (by omega),List.getElem?_drop,show p+k+1+(j - k - 1)=p+j by omega,jz j (by omega)]
       ·rw[List.getElem?_eq_none (by rw[List.length_take];omega),List.getElem?_eq_none (by rw[Z6,List.length_cons,List.length_take,List.length_take,List.length_drop];omega)]
      rw[e2,Nat.add_assoc p k,Nat.add_assoc p]
     show zbc msg (⟨p+k+1+b.toNat,lim,nx,n.take k++b::(msg.drop (p+k+1)).take b.toNat⟩:RdSt)=_
     rw[e1];exact znj msg n p hn hl lim nx m _ (by omega) (by omega) li
    ·rw[hd,zbb,if_neg (fun e=>h0 (by rw[e];rfl)),if_pos (by omega)]at hp
     simp at hp
  ·rw[List.drop_of_length_le (by omega)]at hp;simp[zbx]at hp
theorem zhe {n:List UInt8} (h:may n=true):(zav n).isSome=true:=by
 unfold may labelsOf at h;split at h
 ·exact h
 ·simp at h
theorem zvb {msg n:List UInt8} {p:Nat} (hn:(msg.drop p).take n.length=n) (h:may n=true):readN msg p=(n,p+n.length,0):=
 znj msg n p hn (zek h) p none (n.length+1) 0 (by omega) (by omega) (by simpa using zhe h)
theorem zun {k:Int} (hk:k=2∨k=5∨k=12) (d:List UInt8):zbk k d=if may d then some [⟨d,true,d.length⟩]else none:=by
 have hc:checksOf k=[⟨1,0⟩]:=by
  unfold checksOf;rw[if_neg (by omega),if_neg (by omega),if_pos hk]
 have hs:splitOf d 0 k=zab [⟨1,0⟩] d 0:=by unfold splitOf;rw[if_neg (by omega),hc]
 unfold zbk;rw[hs];by_cases hm:may d=true
 ·have hr:=zvb (msg:=d) (n:=d) (p:=0) (by simp) hm
  rw[if_pos hm];simp[zab,zaa,hr,textOf]
 ·rw[if_neg hm,if_neg];rintro⟨h1,h2⟩;by_cases he:(readN d 0).2.2=0
  ·have hv:=zni he
   have hr:zaa ⟨1,0⟩ d 0=(⟨(readN d 0).1,true,(readN d 0).2.1⟩,0):=by simp[zaa,he]
   by_cases h3:(readN d 0).2.1<d.length
   ·simp[zab,hr,h3]at h1
   ·simp[zab,hr,h3,textOf]at h2;rw[h2]at hv;exact hm hv
  ·have hr:zaa ⟨1,0⟩ d 0=(Pc.zero,(readN d 0).2.2):=by simp[zaa,he]
   simp[zab,hr,he]at h1
theorem zvi {k:Int} (hk:k=2∨k=5∨k=12) (d:List UInt8):rnames k d=if may d then[d]else[]:=by
 unfold rnames partsOf;rw[zun hk];split<;>rfl
end Go.Proofs.YtdnpmapelmjfpaaGreatDoor
namespace Go.Proofs.YtdnpmapelmjfpaaGreatDoor
open Go.RowKit
theorem zp8 (l:List UInt8) (k:Nat) (h:k<l.length) (b:UInt8) (hb:l[k]=b) (h0:((b.toNat:Int)==0)=false) (h1:(b.toNat:Int)≤63):
 (zav (l.drop k)).isSome=(zav (l.drop (k+(1+b.toNat)))).isSome:=by
 rw[zcc l k h,hb,zbb,if_neg (fun e=>by rw[e]at h0;simp at h0),if_neg (by omega),Option.isSome_map,List.drop_drop]
 congr 3;omega
theorem zy8 (l:List UInt8) (k:Nat) (h:k<l.length) (b:UInt8) (hb:l[k]=b) (h0:((b.toNat:Int)==0)=true):(zav (l.drop k)).isSome=((k:Int)==(l.length:Int) - 1):=by
 have hz:b=0:=UInt8.toNat_inj.1 (by simpa using h0)
 rw[zcc l k h,hb,zbb,if_pos hz];by_cases e:k=l.length - 1
 ·have:l.drop (k+1)=[]:=List.drop_of_length_le (by omega)
  rw[this];simp;omega
 ·have:l.drop (k+1)≠[]:=by simp;omega
  rw[if_neg this];simp;omega
theorem zAr (l:List UInt8) (k:Nat) (h:k<l.length) (b:UInt8) (hb:l[k]=b) (h1:63<(b.toNat:Int)):(zav (l.drop k)).isSome=false:=by
 rw[zcc l k h,hb,zbb,if_neg (fun e=>by rw[e]at h1;simp at h1),if_pos (by omega)];rfl
theorem zAs (l:List UInt8) (k:Nat) (h:¬k<l.length):(zav (l.drop k)).isSome=false:=by
 rw[List.drop_of_length_le (by omega)];rfl
theorem zik {l:List UInt8} {b:Bool} (hl:l.length≤255) (h:(zav l).isSome=b):may l=b:=by
 unfold may labelsOf;rw[if_pos hl];exact h
theorem zv4 (l:List UInt8) (w:World) (h0:0<l.length) (hl:l.length≤255):
 Calls Tryz.prog 39 #[S l] w fun e w'=>e=.returned (.bool (may l))∧w=w':=by
 have h1:((l.length:Int)==0)=false:=by simp;intro h;subst h;simp at h0
 go_enter Tryz.func39,Tryz.ntmps39
 go_wp2
 go_loop [3,4] (fun at_ sz=>∃k:Nat,k≤400∧at_=.int .i64 k∧(zav l).isSome=(zav (l.drop k)).isSome) (fun at_ _=>400 - (intOf at_).toNat)
 case atStart=>exact⟨0,by omega,rfl,rfl⟩
 case round=>
  obtain⟨k,hk,rfl,hm⟩:=hrel
  have Hm:=Z7 hm
  clear hm;by_cases ab:k<l.length
  ·obtain⟨b,Hb,cg,dp,aB⟩:=zbu l k ab
   go_wp2
   ·go_ret;exact⟨zar (zik hl (by rw[Hm.out];exact zy8 l k ab b Hb ‹_›)).symm,rfl⟩
   ·go_ret;exact⟨zar (zik hl (by rw[Hm.out];exact zAr l k ab b Hb ‹_›)).symm,rfl⟩
   ·go_round
    case rel=>exact⟨k+(1+b.toNat),by omega,by go_num,by rw[Hm.out];exact zp8 l k ab b Hb ‹_› ‹_›⟩
    case measure=>simp[intOf];omega
  ·go_wp2
   go_ret;exact⟨zar (zik hl (by rw[Hm.out];exact zAs l k ab)).symm,rfl⟩
theorem zbe (l:List UInt8) (w:World) (hl:l.length≤maxLen):
 Calls Tryz.prog 39 #[S l] w fun e w'=>e=.returned (.bool (may l))∧w=w':=by
 by_cases h0:l.length=0
 ·have:l=[]:=List.eq_nil_of_length_eq_zero h0
  subst this;go_enter Tryz.func39,Tryz.ntmps39
  go_wp2
  go_ret;exact⟨rfl,rfl⟩
 by_cases h1:l.length≤255
 ·exact zv4 l w (by omega) h1
 ·have hm:may l=false:=by unfold may labelsOf;rw[if_neg h1];rfl
  rw[hm];unfold maxLen at hl;have h2:((l.length:Int)==0)=false:=zbm h0
  have h3:255<(l.length:Int):=by omega
  clear h0 h1 hm;go_enter Tryz.func39,Tryz.ntmps39
  go_wp2
  go_ret;exact⟨rfl,rfl⟩
theorem zi2 {b:UInt8} (h1:65≤(b.toNat:Int)) (h2:(b.toNat:Int)≤90):(b.toNat:Int)+32=(lowB b).toNat:=by
 unfold lowB;rw[if_pos ⟨by omega,by omega⟩,UInt8.toNat_add]
 simp;omega
theorem zfb {b:UInt8} (h:¬(65≤(b.toNat:Int)∧(b.toNat:Int)≤90)):lowB b=b:=by
 unfold lowB;rw[if_neg (by omega)]
def zfc (l:List UInt8) (k:Nat):Nat→UInt8:=fun j=>if j<k then lowB (l.getD j 0)else l.getD j 0
theorem zsp (w:World) (l:List UInt8) (cap:Nat) (C:Array Value) (hC:bytesRow ⟨l.toArray⟩ cap=C):BRow (w.alloc (.cells C 5 (C.size,C.size+1))).drew w.heap.size l.length (zfc l 0):=by
 subst hC;intro j hj;constructor
 ·show(w.alloc _).cell? _=_
  rw[World.cell?_alloc_mark];simp[bytesRow,zfc,hj,Array.getElem?_append]
 ·show(w.alloc _).frozen? _=_
  have:(w.alloc (.cells (bytesRow ⟨l.toArray⟩ cap) 5 ((bytesRow ⟨l.toArray⟩ cap).size,(bytesRow ⟨l.toArray⟩ cap).size+1))).heap[w.heap.size]? =some (.cells (bytesRow ⟨l.toArray⟩ cap) 5 ((bytesRow ⟨l.toArray⟩ cap).size,(bytesRow ⟨l.toArray⟩ cap).size+1)):=heap_alloc_new w _
  simp only[World.frozen?,this];have hs:l.length≤(bytesRow ⟨l.toArray⟩ cap).size:=by simp[bytesRow]
  simp;omega
theorem zp6 (l:List UInt8) (k:Nat) (h:k<l.length) (b:UInt8) (hb:l[k]=b):∀j,zfc l (k+1) j=if j=k then lowB b else zfc l k j:=by
 intro j;unfold zfc;by_cases e:j=k
 ·subst e;simp[h,hb]
 ·rw[if_neg e];by_cases h1:j<k
  ·rw[if_pos h1,if_pos (by omega)]
  ·rw[if_neg h1,if_neg (by omega)]
theorem zhu (l:List UInt8) (w:World) (hl:l.length≤maxLen):
 Calls Tryz.prog 45 #[S l] w fun e w'=>e=.returned (S (low l))∧Ext w w':=by
 unfold maxLen at hl;have dD:=run_bytes_of_string (P:=Tryz.prog) w 9 110 5 ⟨l.toArray⟩ Tryz.underlying9 Tryz.underlying110 Tryz.underlying5
 generalize hC:bytesRow ⟨l.toArray⟩ (grownCap w (ByteArray.mk l.toArray).size 0 5)=C at dD;generalize grownCap w (ByteArray.mk l.toArray).size 0 5=cap at dD hC;have HC:=Z7 hC
 clear hC;go_enter Tryz.func45,Tryz.ntmps45
 go_wp2
 go_loopw [10,4,5] (fun i a b wr=>∃k:Nat,k≤l.length∧i=.int .i64 k∧BRow wr w.heap.size l.length (zfc l k)∧Ext w wr) (fun i _ _ _=>l.length - (intOf i).toNat)
 case atStart=>exact⟨0,by omega,rfl,zsp w l cap C HC.out,((Below.refl _ _).alloc (Z4 _) _).drew⟩
 case round=>
  obtain⟨k,hk,rfl,hB,hE⟩:=hrel
  have HB:=Z7 hB
  clear hB;by_cases ab:k<l.length
  ·obtain⟨b,Hb,cg,dp,aB⟩:=zbu l k ab
   have hc:wr.cell? ⟨w.heap.size,k,none⟩=some (.int .u8 (b.toNat:Int)):=by
    rw[(HB.out k ab).1];simp[zfc,ab,Hb.out]
   have hf:wr.frozen? ⟨w.heap.size,k,none⟩=false:=(HB.out k ab).2
   have Hs:=Z7 (zp6 l k ab b Hb.out)
   clear cg dp
   go_wp2
   ·go_roundw
    case rel=>exact⟨k+1,by omega,by go_num,(HB.out.set ab _ _ (zi2 ‹_› ‹_›)).congr fun j _=>Hs.out j,hE.setCell (Z4 _) _⟩
    case measure=>simp[intOf];omega
   all_goals
    go_roundw
    case rel=>exact⟨k+1,by omega,by go_num,HB.out.congr fun j _=>by rw[Hs.out j,zfb (by omega)];(split;· (rename_i e;subst e;simp[zfc,ab,Hb.out]));rfl,hE⟩
    case measure=>simp[intOf];omega
  ·have lj:=run_convert_bytes_back (P:=Tryz.prog) wr 110 9 5 ⟨w.heap.size,0,none⟩ cap (low l) Tryz.underlying110 Tryz.underlying5 Tryz.underlying9 (fun j hj=>by
    have dP:j<l.length:=by rw[zbg]at hj;exact hj
    have:=(HB.out j dP).1
    rw[show(Addr.add ⟨w.heap.size,0,none⟩ j)=⟨w.heap.size,j,none⟩by unfold Addr.add;split<;>simp_all,this]
    simp[zfc,low,dP,show j<k by omega])
   rw[zbg]at lj
   go_wp2
   go_ret;exact⟨rfl,hE⟩
theorem zhg (l:List UInt8) (w:World) (hl:l.length≤maxLen):
 Calls Tryz.prog 19 #[S l] w fun e w'=>e=.returned (S (fold l))∧Ext w w':=by
 by_cases hm:may l=true
 ·have hf:fold l=low l:=by unfold fold;rw[if_pos hm]
  rw[hf];have Hl:=Z7 hl
  clear hl hf;go_enter Tryz.func19,Tryz.ntmps19;go_wp2_with(first|(go_at_call 39;refine(zbe _ _ Hl.out).mono ?_;rintro e w' ⟨rfl,rfl⟩)|(go_at_call 45;refine(zhu _ _ Hl.out).mono ?_;rintro e w' ⟨rfl,hE⟩))
  go_ret;exact⟨rfl,hE⟩
 ·have gP:may l=false:=by simpa using hm
  have hf:fold l=[]:=by unfold fold;rw[if_neg hm]
  rw[hf];have Hl:=Z7 hl
  clear hl hf hm;go_enter Tryz.func19,Tryz.ntmps19;go_wp2_with(first|(go_at_call 39;refine(zbe _ _ Hl.out).mono ?_;rintro e w' ⟨rfl,rfl⟩))
  go_ret;exact⟨rfl,Z5 _⟩
theorem zm2 (a b:List UInt8) (w:World) (ha:a.length≤maxLen) (hb:b.length≤maxLen):
 Calls Tryz.prog 179 #[S a,S b] w fun e w'=>e=.returned (.bool (sameN a b))∧Ext w w':=by
 have Ha:=Z7 ha
 have Hb:=Z7 hb
 have hs:sameN a b=(may a&&may b&&(low a==low b)):=rfl
 have Hs:=Z7 hs
 clear ha hb hs;by_cases h1:may a=true
 ·by_cases h2:may b=true
  ·go_enter Tryz.func179,Tryz.ntmps179;go_wp2_with fail;refine(zbe _ _ Ha.out).mono ?_;rintro e w' ⟨rfl,rfl⟩;go_wp2_with fail;refine(zbe _ _ Hb.out).mono ?_;rintro e w' ⟨rfl,rfl⟩;go_wp2_with fail;refine(zhu _ _ Ha.out).mono ?_;rintro e w1 ⟨rfl,ae⟩;go_wp2_with fail;refine(zhu _ _ Hb.out).mono ?_;rintro e w2 ⟨rfl,ah⟩;go_wp2_with fail;go_ret;exact⟨zar (by rw[Hs.out,h1,h2];simp),ae.trans ah⟩
  ·have sV:may b=false:=by simpa using h2
   clear h2;go_enter Tryz.func179,Tryz.ntmps179;go_wp2_with fail;refine(zbe _ _ Ha.out).mono ?_;rintro e w' ⟨rfl,rfl⟩;go_wp2_with fail;refine(zbe _ _ Hb.out).mono ?_;rintro e w' ⟨rfl,rfl⟩;go_wp2_with fail;go_ret;exact⟨zar (by rw[Hs.out,h1,sV];rfl),Z5 _⟩
 ·have iD:may a=false:=by simpa using h1
  clear h1;go_enter Tryz.func179,Tryz.ntmps179;go_wp2_with fail;refine(zbe _ _ Ha.out).mono ?_;rintro e w' ⟨rfl,rfl⟩;go_wp2_with fail;go_ret;exact⟨zar (by rw[Hs.out,iD];rfl),Z5 _⟩
end Go.Proofs.YtdnpmapelmjfpaaGreatDoor
