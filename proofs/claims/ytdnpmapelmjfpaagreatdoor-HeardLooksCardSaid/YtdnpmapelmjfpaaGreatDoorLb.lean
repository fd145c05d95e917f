/- Lemmas of this claim. No condition. -/
import Derived.Test.YtdnpmapelmjfpaaGreatDoorLa
import Derived.LaidEql
import Derived.Stop.Asserts
import Derived.RowKitTokens
set_option maxHeartbeats 4000000
set_option linter.unusedVariables false
set_option linter.unusedSimpArgs false
set_option maxRecDepth 100000
namespace Go.Proofs.YtdnpmapelmjfpaaGreatDoor
open Go.RowKit Go.Extern.Stop Go.Stop Go.Extern
abbrev hdl (t:Nat):Value:=.pointer (some ⟨5,t,none⟩)
abbrev zms:Value:=.iface 286 (.agg #[hdl 124])
theorem zE6 (t:Addr) (w:World):(ReflectliteValue.unpack (.iface 300 (.pointer (some t)))).run Tryz.prog w
 =.ok (.agg #[hdl 300,.pointer (some ⟨w.heap.size,0,none⟩),.int .u64 150]) (w.alloc (.cells #[.pointer (some t)] 300)):=by kernel_rfl
theorem zH5 (a:Addr) (w:World):(ReflectliteValue.methodAny (ReflectliteValue.valueError "reflectlite.Value.Type" 0) (fun t _ _ _=>ReflectliteType.toType t) #[.agg #[hdl 300,.pointer (some a),.int .u64 150]]).run Tryz.prog w
 =.ok (.iface 286 (.agg #[hdl 300])) w:=by kernel_rfl
theorem zy2 (h:Value) (w:World):(Go.method 496 286 (.agg #[h]) "Kind").run Tryz.prog w=.ok (266,h) w:=by kernel_rfl
theorem zH0 (w:World):((ReflectliteType.abiMethod fun t=>(fun a:Nat=>Value.int IntKind.u8 (a:Int))<$>Rtype.kind t) #[hdl 300]).run Tryz.prog w=.ok (.int .u8 22) w:=by kernel_rfl
theorem zGz (w:World):((ReflectliteType.abiMethod fun t=>(fun a:Nat=>Value.int IntKind.u8 (a:Int))<$>Rtype.kind t) #[hdl 298]).run Tryz.prog w=.ok (.int .u8 25) w:=by kernel_rfl
theorem rlm (z:Sem Value) (f:TypeId→Addr→Nat→Nat→Sem Value) (v:Value):
 ReflectliteValue.method z f #[v]=(do match ←ReflectliteValue.parts v with|none=>z|some (t,a,fl)=>f t a fl (fl%32)):=rfl
theorem zAt (a:Addr) (w:World):(ReflectliteValue.parts (.agg #[hdl 300,.pointer (some a),.int .u64 150])).run Tryz.prog w=.ok (some (300,a,150)) w:=by kernel_rfl
theorem zG7 (a p:Addr) (W:World) (ha:W.cell? a=some (.pointer (some p))):
 (ReflectliteValue.method (ReflectliteValue.valueError "reflectlite.Value.IsNil" 0) ReflectliteValue.isNil #[.agg #[hdl 300,.pointer (some a),.int .u64 150]]).run Tryz.prog W=.ok (.bool false) W:=by
 rw[rlm];simp only[Sem.run_bind,zAt,Result.andThen];simp[ReflectliteValue.isNil,loadVar,isAgg,underlying,Tryz.underlying300,ha,Result.andThen]
theorem zy1 (h:Value) (w:World):(Go.method 496 286 (.agg #[h]) "Elem").run Tryz.prog w=.ok (272,.agg #[h]) w:=by kernel_rfl
theorem zo4 (h:Value) (w:World):(Go.method 496 286 (.agg #[h]) "Implements").run Tryz.prog w=.ok (273,.agg #[h]) w:=by kernel_rfl
theorem zm0 (h:Value) (w:World):(Go.method 496 286 (.agg #[h]) "AssignableTo").run Tryz.prog w=.ok (270,.agg #[h]) w:=by kernel_rfl
theorem zGv (w:World):(ReflectliteType.method ReflectliteType.elem #[.agg #[hdl 300]]).run Tryz.prog w=.ok (.iface 286 (.agg #[hdl 298])) w:=by kernel_rfl
theorem zuy (w:World):(ReflectliteType.relation "Implements" ReflectliteType.implements_ #[.agg #[hdl 298],zms]).run Tryz.prog w=.ok (.bool true) w:=by kernel_rfl
theorem zFw (v:Value) (w:World):(ReflectliteType.typeOf #[.iface 298 v]).run Tryz.prog w=.ok (.iface 286 (.agg #[hdl 298])) w:=by kernel_rfl
theorem zur (w:World):(ReflectliteType.relation "AssignableTo" ReflectliteType.assignableTo #[.agg #[hdl 298],.iface 286 (.agg #[hdl 298])]).run Tryz.prog w=.ok (.bool true) w:=by kernel_rfl
theorem zE5 (n:Int) (w:World):(ReflectliteValue.unpack (.iface 298 (.agg #[.int .i64 n]))).run Tryz.prog w
 =.ok (.agg #[hdl 298,.pointer (some ⟨w.heap.size,0,none⟩),.int .u64 153]) (w.alloc (.cells #[.int .i64 n] 298)):=by kernel_rfl
theorem zEx (w:World):(Rtype.elem? 300).run Tryz.prog w=.ok (some 298) w:=by kernel_rfl
theorem mkF (p:Addr) (w:World):(ReflectliteValue.mk 298 p ReflectliteValue.flagAddr).run Tryz.prog w=.ok (.agg #[hdl 298,.pointer (some p),.int .u64 409]) w:=by kernel_rfl
theorem zG5 (a p:Addr) (W:World) (ha:W.cell? a=some (.pointer (some p))):
 (ReflectliteValue.method (ReflectliteValue.valueError "reflectlite.Value.Elem" 0) ReflectliteValue.elem #[.agg #[hdl 300,.pointer (some a),.int .u64 150]]).run Tryz.prog W
  =.ok (.agg #[hdl 298,.pointer (some p),.int .u64 409]) W:=by
 rw[rlm];simp only[Sem.run_bind,zAt,Result.andThen];simp[ReflectliteValue.elem,loadVar,isAgg,underlying,Tryz.underlying300,ha,Result.andThen,zEx,mkF]
theorem rls (v x:Value):ReflectliteValue.set #[v,x]=(do
 let (some (dst,a,fl),some (src,b,_)):=(←ReflectliteValue.parts v,←ReflectliteValue.parts x)
  |unsupported (.noEntry "extern/(internal/reflectlite.Value).Set.zeroValue")
 if fl/ReflectliteValue.flagAddr%2==0 then unsupported (.noEntry "extern/(internal/reflectlite.Value).Set.unaddressable")
 let val ←loadVar src b
 if ←Rtype.directlyAssignable dst src then storeVar dst a val
 else if ←Rtype.implements dst src then
  if(←Rtype.kind src)==20 then
   match val with
   | .nilIface=>unsupported (.noEntry "extern/reflectlite: a nil value of one interface type handed on as a value of another")
   |_=>storeVar dst a val
  else storeVar dst a (.iface src val)
 else panicString ("reflectlite.Set: value of type " ++(←Rtype.spelt src)++ " is not assignable to type " ++(←Rtype.spelt dst))
 pure (.tuple #[])):=rfl
theorem zFh (a:Addr) (w:World):(ReflectliteValue.parts (.agg #[hdl 298,.pointer (some a),.int .u64 409])).run Tryz.prog w=.ok (some (298,a,409)) w:=by kernel_rfl
theorem zGd (a:Addr) (w:World):(ReflectliteValue.parts (.agg #[hdl 298,.pointer (some a),.int .u64 153])).run Tryz.prog w=.ok (some (298,a,153)) w:=by kernel_rfl
theorem zEv (w:World):(Rtype.directlyAssignable 298 298).run Tryz.prog w=.ok true w:=by kernel_rfl
theorem zH4 (w:World):(sizeOf 298).run Tryz.prog w=.ok 1 w:=by kernel_rfl
theorem setF (ta b:Addr) (n:Int) (old:Value) (W:World) (hb:W.cell? b=some (.int .i64 n)) (ht:W.cell? ta=some old) (hf:W.frozen? ta=false):
 (ReflectliteValue.set #[.agg #[hdl 298,.pointer (some ta),.int .u64 409],.agg #[hdl 298,.pointer (some b),.int .u64 153]]).run Tryz.prog W
  =.ok (.tuple #[]) (W.setCell ta (.int .i64 n)):=by
 have hl:=run_loadCells_list (P:=Tryz.prog) W b [.int .i64 n] (fun j v hj=>by
  rcases j with _|j
  ·simp at hj;subst hj;simpa[Addr.add]using hb
  ·simp at hj)
 simp only[List.length_cons,List.length_nil]at hl;rw[rls];simp only[Sem.run_bind,zFh,zGd,Result.andThen];simp[ReflectliteValue.flagAddr,loadVar,isAgg,underlying,Tryz.underlying298,hl,Result.andThen,zEv,zH4,storeVar,Value.cells,storeCells,Addr.add];rw[run_store Tryz.prog W ta _ _ (by rfl)]
 simp[ht,hf]
theorem zG1 (n:Int) (t:Addr) (old:Value) (w:World) (hg:w.cell? ⟨3,0,none⟩=some zms) (t9:w.cell? t=some old) (y5:w.frozen? t=false):
 Calls Tryz.prog 185 #[.iface 298 (.agg #[.int .i64 n]),.iface 300 (.pointer (some t))] w fun ev w'=>ev=.returned (.bool true)∧w'=((((w.alloc (.cells #[.pointer (some t)] 300)).alloc (.cells #[hdl 300,.pointer (some ⟨w.heap.size,0,none⟩),.int .u64 150] 340)).alloc (.cells #[hdl 300,.pointer (some ⟨w.heap.size,0,none⟩),.int .u64 150] 340)).alloc (.cells #[.int .i64 n] 298)).setCell t (.int .i64 n):=by
 have h6:=@run_callFunc_extern Tryz.prog 225 _ (fun args=>ReflectliteValue.unpack (args.getD 0 (.tuple #[]))) Tryz.func225 (by kernel_rfl) (by kernel_rfl) (by kernel_rfl) (by kernel_rfl)
 have h7:=@run_callFunc_extern Tryz.prog 226 _ (ReflectliteValue.methodAny (ReflectliteValue.valueError "reflectlite.Value.Type" 0) (fun t _ _ _=>ReflectliteType.toType t)) Tryz.func226 (by kernel_rfl) (by kernel_rfl) (by kernel_rfl) (by kernel_rfl)
 have h8:=@run_callFunc_extern Tryz.prog 227 _ (ReflectliteValue.method (ReflectliteValue.valueError "reflectlite.Value.IsNil" 0) ReflectliteValue.isNil) Tryz.func227 (by kernel_rfl) (by kernel_rfl) (by kernel_rfl) (by kernel_rfl)
 have Jw:=@run_callFunc_extern Tryz.prog 266 _ (ReflectliteType.abiMethod fun t=>do pure (.int .u8 (←Rtype.kind t))) Tryz.func266 (by kernel_rfl) (by kernel_rfl) (by kernel_rfl) (by kernel_rfl)
 have Jx:=@run_callFunc_extern Tryz.prog 272 _ (ReflectliteType.method ReflectliteType.elem) Tryz.func272 (by kernel_rfl) (by kernel_rfl) (by kernel_rfl) (by kernel_rfl)
 have Jy:=@run_callFunc_extern Tryz.prog 273 _ (ReflectliteType.relation "Implements" ReflectliteType.implements_) Tryz.func273 (by kernel_rfl) (by kernel_rfl) (by kernel_rfl) (by kernel_rfl)
 have Jz:=@run_callFunc_extern Tryz.prog 126 _ ReflectliteType.typeOf Tryz.func126 (by kernel_rfl) (by kernel_rfl) (by kernel_rfl) (by kernel_rfl)
 have JA:=@run_callFunc_extern Tryz.prog 270 _ (ReflectliteType.relation "AssignableTo" ReflectliteType.assignableTo) Tryz.func270 (by kernel_rfl) (by kernel_rfl) (by kernel_rfl) (by kernel_rfl)
 have CO:=@run_callFunc_extern Tryz.prog 243 _ (ReflectliteValue.method (ReflectliteValue.valueError "reflectlite.Value.Elem" 0) ReflectliteValue.elem) Tryz.func243 (by kernel_rfl) (by kernel_rfl) (by kernel_rfl) (by kernel_rfl)
 have dq:=@run_callFunc_extern Tryz.prog 244 _ ReflectliteValue.set Tryz.func244 (by kernel_rfl) (by kernel_rfl) (by kernel_rfl) (by kernel_rfl)
 have tO:=zFw
 have mA:=zm0
 have a25:=zur
 have v25:=zE5
 have f6:=zE6
 have f7:=zH5
 have mK:=zy2
 have mE:=zy1
 have mI:=zo4
 have k27:=zH0
 have k25:=zGz
 have e27:=zGv
 have i25:=zuy
 have n8:=zG7 ⟨w.heap.size,0,none⟩ t ((w.alloc (.cells #[.pointer (some t)] 300)).alloc (.cells #[hdl 300,.pointer (some ⟨w.heap.size,0,none⟩),.int .u64 150] 340)) (by simp)
 have ab:3<w.heap.size:=by
  rcases Nat.lt_or_ge 3 w.heap.size with h|h
  ·exact h
  ·simp[World.cell?,Array.getElem?_eq_none h]at hg
 have ci:((w.alloc (.cells #[.pointer (some t)] 300)).alloc (.cells #[hdl 300,.pointer (some ⟨w.heap.size,0,none⟩),.int .u64 150] 340)).cell? ⟨3,0,none⟩=some zms:=by
  rw[World.cell?_alloc_lt _ _ ⟨3,0,none⟩ (by simp<;>omega),World.cell?_alloc_lt _ _ ⟨3,0,none⟩ ab];exact hg
 have cv:t.block<w.heap.size:=by
  rcases Nat.lt_or_ge t.block w.heap.size with h|h
  ·exact h
  ·simp[World.cell?,Array.getElem?_eq_none h]at t9
 have el:=zG5 ⟨w.heap.size,0,none⟩ t (((w.alloc (.cells #[.pointer (some t)] 300)).alloc (.cells #[hdl 300,.pointer (some ⟨w.heap.size,0,none⟩),.int .u64 150] 340)).alloc (.cells #[hdl 300,.pointer (some ⟨w.heap.size,0,none⟩),.int .u64 150] 340)) (by rw[World.cell?_alloc_lt _ _ ⟨w.heap.size,0,none⟩ (by simp;omega)];simp)
 have st:=setF t ⟨w.heap.size+1+1+1,0,none⟩ n old ((((w.alloc (.cells #[.pointer (some t)] 300)).alloc (.cells #[hdl 300,.pointer (some ⟨w.heap.size,0,none⟩),.int .u64 150] 340)).alloc (.cells #[hdl 300,.pointer (some ⟨w.heap.size,0,none⟩),.int .u64 150] 340)).alloc (.cells #[.int .i64 n] 298))
  (by rw[World.cell?_alloc_at _ _ _ _ (by simp)];rfl)
  (by rw[World.cell?_alloc_lt _ _ t (by simp;omega),World.cell?_alloc_lt _ _ t (by simp;omega),World.cell?_alloc_lt _ _ t (by simp;omega),World.cell?_alloc_lt _ _ t cv];exact t9)
  (by rw[World.frozen?_alloc_old _ _ t (by simp;omega),World.frozen?_alloc_old _ _ t (by simp;omega),World.frozen?_alloc_old _ _ t (by simp;omega),World.frozen?_alloc_old _ _ t (Nat.ne_of_lt cv)];exact y5)
 go_enter Tryz.func185,Tryz.ntmps185
 go_wp2
 refine wp_loop_rounds 1 ?_;rw[rounds_succ]
 go_wp2
 go_ret;exact⟨rfl,rfl⟩
end Go.Proofs.YtdnpmapelmjfpaaGreatDoor
namespace Go.Proofs.YtdnpmapelmjfpaaGreatDoor
open Go.RowKit
theorem zw7 (l:List UInt8) (w:World):
 Calls Tryz.prog 73 #[S l] w fun e w'=>e=.returned (.pointer (some ⟨w.heap.size,0,none⟩))∧w'=w.alloc (.cells #[S l,.int .i64 0] 226):=by
 go_enter Tryz.func73,Tryz.ntmps73
 go_wp2
 go_ret;exact⟨rfl,rfl⟩
theorem zzu (b:Nat) (n:Int) (w:World) (h1:w.cell? ⟨b,1,none⟩=some (.int .i64 n)):
 Calls Tryz.prog 135 #[.pointer (some ⟨b,0,none⟩)] w fun e w'=>e=.returned (.int .i64 n)∧w=w':=by
 go_enter Tryz.func135,Tryz.ntmps135
 go_wp2
 go_ret;exact⟨rfl,rfl⟩
theorem zsx (b:Nat) (l:List UInt8) (n m:Int) (w:World) (hl:l.length≤maxLen) (h0:w.cell? ⟨b,0,none⟩=some (S l)) (h1:w.cell? ⟨b,1,none⟩=some (.int .i64 n)) (hf:w.frozen? ⟨b,1,none⟩=false)
 (hm:0≤m) (iE:m≤l.length):
 Calls Tryz.prog 136 #[.pointer (some ⟨b,0,none⟩),.int .i64 m] w fun e w'=>e=.returned (.int .i64 0)∧w'=w.setCell ⟨b,1,none⟩ (.int .i64 m):=by
 unfold maxLen at hl;have y8:¬(l.length:Int)<m:=by omega
 go_enter Tryz.func136,Tryz.ntmps136
 go_wp2
 go_ret;exact⟨rfl,rfl⟩
abbrev fail (n:Int):Value:=.iface 298 (.agg #[.int .i64 n])
theorem zsy (b:Nat) (l:List UInt8) (n:Nat) (m:Nat) (w:World) (hl:l.length≤maxLen) (h0:w.cell? ⟨b,0,none⟩=some (S l)) (h1:w.cell? ⟨b,1,none⟩=some (.int .i64 n)) (hf:w.frozen? ⟨b,1,none⟩=false)
 (hn:n≤l.length) (hm:n+m≤l.length):
 Calls Tryz.prog 132 #[.pointer (some ⟨b,0,none⟩),.int .i64 m] w fun e w'=>e=.returned (.tuple #[S ((l.drop n).take m),.nilIface])∧∃q,w'=(w.drewN q).setCell ⟨b,1,none⟩ (.int .i64 ((n:Int)+m)):=by
 unfold maxLen at hl;have h3:(m:Int)≤(l.length:Int) - n:=by omega
 have hs:IntKind.i64.wrap ((l.length:Int) - n)=(l.length:Int) - n:=IntWalk.i64_in _ (by omega)
 have iF:IntKind.i64.wrap ((n:Int)+m)=(n:Int)+m:=IntWalk.i64_in _ (by omega)
 have e2:((n:Int)+m).toNat=n+m:=by omega
 have e3:(0:Int)≤(n:Int)+m:=by omega
 have e4:n+m - n=m:=by omega
 go_enter Tryz.func132,Tryz.ntmps132
 go_wp2
 go_quiet (fail)
 go_wp2
 go_quiet (fail)
 go_wp2
 go_ret2
 exact⟨rfl,_,rfl⟩
theorem zjq (b:Nat) (l:List UInt8) (n:Nat) (m:Nat) (w:World) (hl:l.length≤maxLen) (iE:m≤maxLen) (h0:w.cell? ⟨b,0,none⟩=some (S l)) (h1:w.cell? ⟨b,1,none⟩=some (.int .i64 n))
 (hn:n≤l.length) (hm:l.length<n+m):
 Calls Tryz.prog 132 #[.pointer (some ⟨b,0,none⟩),.int .i64 m] w fun e w'=>e=.returned (.tuple #[S [],fail 4])∧∃q,w'=w.drewN q:=by
 unfold maxLen at hl iE;have h3:(l.length:Int) - n<m:=by omega
 have hs:IntKind.i64.wrap ((l.length:Int) - n)=(l.length:Int) - n:=IntWalk.i64_in _ (by omega)
 go_enter Tryz.func132,Tryz.ntmps132
 go_wp2
 go_quiet (fail)
 go_wp2
 go_ret2
 exact⟨rfl,_,rfl⟩
theorem zq1 (w:World):Calls Tryz.prog 133 #[.nilIface] w fun e w'=>e=.returned (.int .i64 0)∧w=w':=by
 go_enter Tryz.func133,Tryz.ntmps133
 go_wp2
 go_ret;exact⟨rfl,rfl⟩
def Laid (w:World):Prop:=w.cell? ⟨3,0,none⟩=some zms
theorem Laid.lt {w:World} (h:Laid w):3<w.heap.size:=by
 rcases Nat.lt_or_ge 3 w.heap.size with h'|h'
 ·exact h'
 ·simp[Laid,World.cell?,Array.getElem?_eq_none h']at h
theorem Laid.ext {w w':World} (h:Laid w) (hE:Ext w w'):Laid w':=(hE.cell (p:=⟨3,0,none⟩) h.lt).trans h
theorem Laid.drewN {w:World} (h:Laid w) (n:Nat):Laid (w.drewN n):=h
theorem zos (n:Int) (w:World) (hg:Laid w):Calls Tryz.prog 133 #[fail n] w fun e w'=>e=.returned (.int .i64 n)∧Ext w w':=by
 have ci:(w.alloc (.cells #[.int .i64 0] 298)).cell? ⟨3,0,none⟩=some zms:=by
  rw[World.cell?_alloc_lt _ _ ⟨3,0,none⟩ hg.lt];exact hg
 have has:=zG1 n ⟨w.heap.size,0,none⟩ (.int .i64 0) (w.alloc (.cells #[.int .i64 0] 298)) ci (by simp) (by simp)
 have EJ:=Z7 has
 clear has ci;go_enter Tryz.func133,Tryz.ntmps133;go_wp2_with(go_at_call 185;refine EJ.out.mono ?_;rintro e w' ⟨rfl,rfl⟩)
 go_ret;refine⟨rfl,?_⟩;exact xt
theorem zuk (x:Nat) (c:UInt8) (hx:x<16777216):bits BinOp.or IntKind.u32 ((x:Int)*256) (c.toNat:Int)=((x*256+c.toNat:Nat):Int):=by
 have hc:=c.toNat_lt
 have:=u32_or_nat (x*256) c.toNat (by omega) (by omega)
 rw[zAp _ _ (by omega),show((x*256:Nat):Int)=(x:Int)*256 by omega]at this
 exact this
theorem zpw (s:List UInt8) (k:Nat) (h:k<s.length) (c:UInt8) (hc:s[k]=c):be (s.take (k+1))=be (s.take k)*256+c.toNat:=by rw[zat s k h,zw3,hc]
theorem zkd (s:List UInt8) (k:Nat) (hs:s.length≤4) (h:k<s.length):be (s.take k)<16777216:=by
 have h1:=zop (s.take k)
 have h2:(s.take k).length≤3:=by simp;omega
 have h3:256^(s.take k).length≤256^3:=Nat.pow_le_pow_right (by omega) h2
 have h4:(256:Nat)^3=16777216:=by decide
 omega
theorem zll (b:Nat) (l:List UInt8) (n:Nat) (m:Nat) (w:World) (hl:l.length≤maxLen) (h0:w.cell? ⟨b,0,none⟩=some (S l)) (h1:w.cell? ⟨b,1,none⟩=some (.int .i64 n)) (hf:w.frozen? ⟨b,1,none⟩=false)
 (hn:n≤l.length) (hm:n+m≤l.length) (CP:m≤4):
 Calls Tryz.prog 184 #[.pointer (some ⟨b,0,none⟩),.int .i64 m] w fun e w'=>e=.returned (.tuple #[.int .u32 (be ((l.drop n).take m)),.int .i64 0])∧∃q,w'=(w.drewN q).setCell ⟨b,1,none⟩ (.int .i64 ((n:Int)+m)):=by
 have Ht:=Z7 (zsy b l n m w hl h0 h1 hf hn hm)
 unfold maxLen at hl;have aq:((l.drop n).take m).length=m:=by simp;omega
 generalize (l.drop n).take m=s at*;have hs:s.length≤4:=by omega
 have Hs:=Z7 aq
 clear aq;go_enter Tryz.func184,Tryz.ntmps184;go_wp2_with(go_at_call 132;refine Ht.out.mono ?_;rintro e w' ⟨rfl,q,rfl⟩)
 go_loop [8,9] (fun v i=>∃k:Nat,k≤s.length∧i=.int .i64 k∧v=.int .u32 (be (s.take k))) (fun _ i=>s.length - (intOf i).toNat)
 case atStart=>exact⟨0,by omega,rfl,rfl⟩
 case round=>
  obtain⟨k,hk,rfl,rfl⟩:=hrel
  by_cases ab:k<s.length
  ·obtain⟨c,Hb,cg,dp,aB⟩:=zbu s k ab
   have bO:=Z7 (zpw s k ab c Hb.out)
   have hx:=zkd s k hs ab
   generalize be (s.take k)=x at*;have Hu:=Z7 (zuk x c hx)
   go_wp2
   go_round
   case rel=>exact⟨k+1,by omega,by go_num,by rw[bO.out,Hu.out]⟩
   case measure=>simp[intOf];omega
  ·have e1:s.take k=s:=List.take_of_length_le (by omega)
   rw[e1];clear e1
   go_wp2
   go_ret2
   exact⟨rfl,_,rfl⟩
theorem zg7 (b:Nat) (l:List UInt8) (n:Nat) (m:Nat) (w:World) (hg:Laid w) (hl:l.length≤maxLen) (h0:w.cell? ⟨b,0,none⟩=some (S l)) (h1:w.cell? ⟨b,1,none⟩=some (.int .i64 n))
 (hn:n≤l.length) (hm:l.length<n+m) (CP:m≤4):
 Calls Tryz.prog 184 #[.pointer (some ⟨b,0,none⟩),.int .i64 m] w fun e w'=>e=.returned (.tuple #[.int .u32 0,.int .i64 4])∧Ext w w':=by
 have Ht:=Z7 (zjq b l n m w hl (by unfold maxLen;omega) h0 h1 hn hm)
 clear h0 h1 hn hm hl;go_enter Tryz.func184,Tryz.ntmps184;go_wp2_with(first|(go_at_call 132;refine Ht.out.mono ?_;rintro e w' ⟨rfl,q,rfl⟩)|(go_at_call 133;refine(zos _ _ (hg.drewN _)).mono ?_;rintro e w2 ⟨rfl,hE⟩))
 go_ret2
 exact⟨rfl,hE.of_drewN _⟩
theorem zCm (b:Nat) (l:List UInt8) (n:Nat) (w:World) (hl:l.length≤maxLen) (h0:w.cell? ⟨b,0,none⟩=some (S l)) (h1:w.cell? ⟨b,1,none⟩=some (.int .i64 n)) (hf:w.frozen? ⟨b,1,none⟩=false)
 (c:UInt8) (hn:n<l.length) (hc:l[n]=c):
 Calls Tryz.prog 186 #[.pointer (some ⟨b,0,none⟩)] w fun e w'=>e=.returned (.tuple #[.int .u8 c.toNat,.int .i64 0])∧∃q,w'=(w.drewN q).setCell ⟨b,1,none⟩ (.int .i64 ((n:Int)+1)):=by
 have hv:=zll b l n 1 w hl h0 h1 hf (by omega) (by omega) (by omega)
 have e1:(l.drop n).take 1=[c]:=by rw[zcc l n hn,hc];rfl
 have e2:be [c]=c.toNat:=by simp[be]
 rw[e1,e2]at hv;have Hv:=Z7 hv
 have nd:(c.toNat:Int)≤255:=by have:=c.toNat_lt;omega
 clear hv e1 e2 hl h0 h1 hf hc;go_enter Tryz.func186,Tryz.ntmps186;go_wp2_with(go_at_call 184;refine Hv.out.mono ?_;rintro e w' ⟨rfl,q,rfl⟩)
 go_ret2
 exact⟨rfl,_,rfl⟩
theorem zq0 (b:Nat) (l:List UInt8) (n:Nat) (w:World) (hg:Laid w) (hl:l.length≤maxLen) (h0:w.cell? ⟨b,0,none⟩=some (S l)) (h1:w.cell? ⟨b,1,none⟩=some (.int .i64 n)) (hn:n=l.length):
 Calls Tryz.prog 186 #[.pointer (some ⟨b,0,none⟩)] w fun e w'=>e=.returned (.tuple #[.int .u8 0,.int .i64 4])∧Ext w w':=by
 have Hv:=Z7 (zg7 b l n 1 w hg hl h0 h1 (by omega) (by omega) (by omega))
 clear hg hl h0 h1 hn;go_enter Tryz.func186,Tryz.ntmps186;go_wp2_with(go_at_call 184;refine Hv.out.mono ?_;rintro e w' ⟨rfl,hE⟩)
 go_ret2
 exact⟨rfl,hE⟩
theorem zsw (b:Nat) (l:List UInt8) (n:Nat) (m:Nat) (w:World) (hl:l.length≤maxLen) (h0:w.cell? ⟨b,0,none⟩=some (S l)) (h1:w.cell? ⟨b,1,none⟩=some (.int .i64 n)) (hf:w.frozen? ⟨b,1,none⟩=false)
 (hn:n≤l.length) (hm:n+m≤l.length):
 Calls Tryz.prog 74 #[.pointer (some ⟨b,0,none⟩),.int .i64 m] w fun e w'=>e=.returned (.tuple #[S ((l.drop n).take m),.int .i64 0])∧∃q,w'=(w.drewN q).setCell ⟨b,1,none⟩ (.int .i64 ((n:Int)+m)):=by
 have Ht:=Z7 (zsy b l n m w hl h0 h1 hf hn hm)
 clear hl h0 h1 hf hn hm;go_enter Tryz.func74,Tryz.ntmps74;go_wp2_with(first|(go_at_call 132;refine Ht.out.mono ?_;rintro e w' ⟨rfl,q,rfl⟩)|(go_at_call 133;refine(zq1 _).mono ?_;rintro e w2 ⟨rfl,rfl⟩))
 go_ret2
 exact⟨rfl,_,rfl⟩
theorem zjp (b:Nat) (l:List UInt8) (n:Nat) (m:Nat) (w:World) (hg:Laid w) (hl:l.length≤maxLen) (iE:m≤maxLen) (h0:w.cell? ⟨b,0,none⟩=some (S l)) (h1:w.cell? ⟨b,1,none⟩=some (.int .i64 n))
 (hn:n≤l.length) (hm:l.length<n+m):
 Calls Tryz.prog 74 #[.pointer (some ⟨b,0,none⟩),.int .i64 m] w fun e w'=>e=.returned (.tuple #[S [],.int .i64 4])∧Ext w w':=by
 have Ht:=Z7 (zjq b l n m w hl iE h0 h1 hn hm)
 clear hl h0 h1 hn hm;go_enter Tryz.func74,Tryz.ntmps74;go_wp2_with(first|(go_at_call 132;refine Ht.out.mono ?_;rintro e w' ⟨rfl,q,rfl⟩)|(go_at_call 133;refine(zos _ _ (hg.drewN _)).mono ?_;rintro e w2 ⟨rfl,hE⟩))
 go_ret2
 exact⟨rfl,hE.of_drewN _⟩
structure Cur (w:World) (g:Nat) (l:List UInt8) (n:Nat):Prop where
 c0:w.cell? ⟨g,0,none⟩=some (S l)
 c1:w.cell? ⟨g,1,none⟩=some (.int .i64 n)
 fr:w.frozen? ⟨g,1,none⟩=false
structure Only (g:Nat) (w w':World):Prop where
 by_:w.grownBy w' (some g)
 size:w'.heap.size=w.heap.size
theorem Cur.lt {w:World} {g:Nat} {l:List UInt8} {n:Nat} (h:Cur w g l n):g<w.heap.size:=World.block_lt_of_cell? w _ h.c0
theorem Cur.new (w:World) (l:List UInt8) (m:Nat):Cur (w.alloc (.cells #[S l,.int .i64 m] 226)) w.heap.size l m:=⟨by simp,by simp,by simp⟩
theorem Cur.set {w:World} {g:Nat} {l:List UInt8} {n:Nat} (h:Cur w g l n) (q:Nat) {m:Int} {k:Nat} (e:m=(k:Int)):Cur ((w.drewN q).setCell ⟨g,1,none⟩ (.int .i64 m)) g l k:=by
 subst e;refine⟨?_,?_,?_⟩
 ·rw[World.cell?_setCell_other _ ⟨g,1,none⟩ ⟨g,0,none⟩ _ (by simp)];exact h.c0
 ·exact World.cell?_setCell_same (w.drewN q) ⟨g,1,none⟩ _ h.c1
 ·rw[World.frozen?_setCell];exact h.fr
theorem Only.set (w:World) (g:Nat) (q:Nat) (v:Value):Only g w ((w.drewN q).setCell ⟨g,1,none⟩ v):=
 ⟨⟨rfl,rfl,rfl,by simp,fun k _ hk=>Below.heap_setCell (w.drewN q) ⟨g,1,none⟩ v k (fun e=>hk (by rw[e]))⟩,by simp⟩
theorem Only.refl (g:Nat) (w:World):Only g w w:=⟨World.grownBy.refl w _,rfl⟩
theorem Only.trans {g:Nat} {a b c:World} (h:Only g a b) (k:Only g b c):Only g a c:=
 ⟨⟨k.by_.os.trans h.by_.os,k.by_.tape.trans h.by_.tape,k.by_.output.trans h.by_.output,by rw[k.size,h.size];exact Z4 _,fun i hi au=>(k.by_.block i (by rw[h.size];exact hi) au).trans (h.by_.block i hi au)⟩,k.size.trans h.size⟩
theorem Ext.only {a w w':World} {g:Nat} (h:Ext a w) (ho:Only g w w') (hg:a.heap.size≤g):Ext a w':=
 Below.grown h ho.by_ h.size (fun k hk=>by injection hk with hk;omega)
theorem Own.only {w w':World} {g lo:Nat} {e:TypeId} {sz n c:Nat} {A:Option Addr} {xs:List Value} (h:Own w lo e sz A n c xs) (ho:Only g w w') (hg:g<lo):Own w' lo e sz A n c xs:=
 h.kept ho.by_ (.inr fun he=>by have:=(h.blk g he).1;omega)
theorem Cur.ext {w w':World} {g:Nat} {l:List UInt8} {n:Nat} (h:Cur w g l n) (hE:Ext w w'):Cur w' g l n:=
 ⟨(hE.cell (p:=⟨g,0,none⟩) h.lt).trans h.c0,(hE.cell (p:=⟨g,1,none⟩) h.lt).trans h.c1,(hE.frozen (p:=⟨g,1,none⟩) h.lt).trans h.fr⟩
theorem Cur.below {w w':World} {g lo:Nat} {l:List UInt8} {n:Nat} (h:Cur w g l n) (hE:Below lo w w') (hg:g<lo):Cur w' g l n:=
 ⟨(hE.cell (p:=⟨g,0,none⟩) hg).trans h.c0,(hE.cell (p:=⟨g,1,none⟩) hg).trans h.c1,(hE.frozen (p:=⟨g,1,none⟩) hg).trans h.fr⟩
theorem zpz {w:World} {g:Nat} {l:List UInt8} {n:Nat} (h:Cur w g l n):
 Calls Tryz.prog 135 #[.pointer (some ⟨g,0,none⟩)] w fun e w'=>e=.returned (.int .i64 n)∧w=w':=zzu g n w h.c1
theorem zqu {w:World} {g:Nat} {l:List UInt8} {n:Nat} (h:Cur w g l n) (hl:l.length≤maxLen) (m:Int) (h1:0≤m) (h2:m≤l.length):
 Calls Tryz.prog 136 #[.pointer (some ⟨g,0,none⟩),.int .i64 m] w fun e w'=>e=.returned (.int .i64 0)∧Cur w' g l m.toNat∧Only g w w':=
 (zsx g l n m w hl h.c0 h.c1 h.fr h1 h2).mono fun _ _ ⟨he,hw⟩=>by
  subst hw;exact⟨he,h.set 0 (by omega),Only.set w g 0 _⟩
theorem zdc {w:World} {g:Nat} {l:List UInt8} {n:Nat} (h:Cur w g l n) (hl:l.length≤maxLen) (c:UInt8) (hc:l[n]? =some c):
 Calls Tryz.prog 186 #[.pointer (some ⟨g,0,none⟩)] w fun e w'=>e=.returned (.tuple #[.int .u8 c.toNat,.int .i64 0])∧Cur w' g l (n+1)∧Only g w w':=by
 obtain⟨hn,y9⟩:=List.getElem?_eq_some_iff.1 hc
 exact(zCm g l n w hl h.c0 h.c1 h.fr c hn y9).mono fun _ _ ⟨he,q,hw⟩=>by
  subst hw;exact⟨he,h.set q (by omega),Only.set w g q _⟩
theorem zj3 {w:World} {g:Nat} {l:List UInt8} {n:Nat} (h:Cur w g l n) (hg:Laid w) (hl:l.length≤maxLen) (hn:n≤l.length) (hc:l[n]? =none):
 Calls Tryz.prog 186 #[.pointer (some ⟨g,0,none⟩)] w fun e w'=>e=.returned (.tuple #[.int .u8 0,.int .i64 4])∧Ext w w':=
 zq0 g l n w hg hl h.c0 h.c1 (by have:=List.getElem?_eq_none_iff.1 hc;omega)
theorem zqv {w:World} {g:Nat} {l:List UInt8} {n:Nat} (h:Cur w g l n) (hl:l.length≤maxLen) (m:Nat) (hm:¬l.length<n+m):
 Calls Tryz.prog 74 #[.pointer (some ⟨g,0,none⟩),.int .i64 m] w fun e w'=>e=.returned (.tuple #[S ((l.drop n).take m),.int .i64 0])∧Cur w' g l (n+m)∧Only g w w':=
 (zsw g l n m w hl h.c0 h.c1 h.fr (by omega) (by omega)).mono fun _ _ ⟨he,q,hw⟩=>by
  subst hw;exact⟨he,h.set q (by omega),Only.set w g q _⟩
theorem zor {w:World} {g:Nat} {l:List UInt8} {n:Nat} (h:Cur w g l n) (hg:Laid w) (hl:l.length≤maxLen) (m:Nat) (iE:m≤maxLen) (hn:n≤l.length) (hm:l.length<n+m):
 Calls Tryz.prog 74 #[.pointer (some ⟨g,0,none⟩),.int .i64 m] w fun e w'=>e=.returned (.tuple #[S [],.int .i64 4])∧Ext w w':=
 zjp g l n m w hg hl iE h.c0 h.c1 hn hm
def lenOf:Value→Nat| .slice _ n _=>n|_=>0
structure RdInv (w0:World) (g:Nat) (msg:List UInt8) (s0 s:RdSt) (A:Option Addr) (c:Nat) (wr:World):Prop where
 pos:s.pos≤msg.length
 out:s.out.length≤254
 lim:s.lim≤msg.length
 cur:Cur wr g msg s.pos
 own:Own wr (g+1) 5 1 A s.out.length c (s.out.map U8)
 ext:Ext w0 wr
 laid:Laid wr
 eq:zbc msg s0=zbc msg s
theorem zf6 (l:List UInt8):∀u∈l.map U8,u.oneCell'=true:=by
 intro u hu;obtain⟨b,_,rfl⟩:=List.mem_map.1 hu
 rfl
theorem zGt (b:UInt8) (h:¬b.toNat<192):bits BinOp.and IntKind.u8 (b.toNat:Int) 63=((b.toNat - 192:Nat):Int):=by
 have hb:=b.toNat_lt
 have:=u8_and_nat b.toNat 63 (by omega) (by omega)
 rw[show(63:Int)=((63:Nat):Int)from rfl,this]
 congr 1;have e:=Nat.and_two_pow_sub_one_eq_mod b.toNat 6
 simp at e;rw[e];omega
theorem zGb (x:Nat) (c:UInt8) (hx:x<64):bits BinOp.or IntKind.i64 ((x:Int)*256) (c.toNat:Int)=((x*256+c.toNat:Nat):Int):=by
 have hc:=c.toNat_lt
 have:=zp0 (x*256) c.toNat (by omega) (by omega)
 rw[zAp _ _ (by omega),show((x*256:Nat):Int)=(x:Int)*256 by omega]at this
 exact this
theorem zj2 (msg:List UInt8) (pos:Nat) (w:World) (hg:Laid w) (hl:msg.length≤140737488351232) (hp:pos≤msg.length):
 Calls Tryz.prog 134 #[S msg,.int .i64 pos] w fun e w'=>e=.returned (.tuple #[S (readN msg pos).1,.int .i64 (readN msg pos).2.1,.int .i64 (readN msg pos).2.2])∧Ext w w':=by
 have eh:msg.length≤maxLen:=by unfold maxLen;omega
 obtain⟨R,hR⟩:∃R,R=readN msg pos:=⟨_,rfl⟩
 rw[←hR];have Hn:Hid (R=zbc msg ⟨pos,pos,none,[]⟩):=hR
 clear hR;obtain⟨i0,aH,aF,aC,ax⟩:=info_parts zfa
 go_enter Tryz.func134,Tryz.ntmps134;go_wp2_with fail;refine(zw7 msg w).mono ?_;rintro e w1 ⟨rfl,rfl⟩;go_wp2_with fail;refine(zqu (Cur.new w msg 0) eh _ (by omega) (by omega)).mono ?_;rintro e w1 ⟨rfl,cD,bm⟩
 have ae:Ext w w1:=Ext.only ((Z5 _).alloc _) bm (Z4 _)
 go_wp2_with fail;rw[Int.toNat_natCast]at cD
 go_loopw [5,8,9,10] (fun nx lim pt out wr=>∃(s:RdSt) (A:Option Addr) (c:Nat),nx=.int .i64 (s.nx.getD 0)∧lim=.int .i64 s.lim∧pt=.bool s.nx.isSome∧out=.slice A s.out.length c∧RdInv w w.heap.size msg ⟨pos,pos,none,[]⟩ s A c wr) (fun _ lim _ out _=>(intOf lim).toNat*300+(256 - lenOf out))
 case atStart=>exact⟨⟨pos,pos,none,[]⟩,none,0,rfl,rfl,rfl,rfl,⟨hp,by simp,hp,cD,Own.nil _ _ _ _,ae,hg.ext ae,rfl⟩⟩
 case round=>
  obtain⟨⟨pos',lim,nx,out⟩,A,c,rfl,rfl,rfl,rfl,hI⟩:=hrel
  obtain⟨wo,rfl⟩:∃wo:World,wo=wr:=⟨_,rfl⟩
  dsimp only at hI ⊢;have nf:out.length≤254:=hI.out
  have qg:lim≤msg.length:=hI.lim
  have iV:pos'≤msg.length:=hI.pos
  rcases hb:msg[pos']? with _|b
  ·have Hb:=Z7 hb
   clear hb;go_wp2_with fail;refine(zj3 hI.cur hI.laid eh hI.pos Hb.out).mono ?_;rintro e w2 ⟨rfl,ah⟩;go_wp2_with fail
   go_ret3
   refine⟨?_,hI.ext.trans ah⟩;rw[Hn.out,hI.eq,zmb _ _ Hb.out];rfl
  have Hb:=Z7 hb
  have ab:pos'<msg.length:=(List.getElem?_eq_some_iff.1 hb).1
  clear hb;have aM:(b.toNat:Int)≤255:=by have:=b.toNat_lt;omega
  by_cases h0:b.toNat=0
  ·have H0:=Z7 (show b=0 from UInt8.toNat_inj.1 (by simpa using h0))
   have f1:((b.toNat:Int)/64==0)=true:=by rw[h0];rfl
   have f2:((b.toNat:Int)==0)=true:=by rw[h0];rfl
   clear h0;rcases nx with _|nx
   all_goals
    dsimp only[Option.getD,Option.isSome]at hI ⊢;go_wp2_with fail;refine(zdc hI.cur eh b Hb.out).mono ?_;rintro e w2 ⟨rfl,ew,aI⟩;have ah:Ext w w2:=hI.ext.only aI (Z4 _)
    have bI:=hI.own.only aI (by omega)
    go_wp2_with(first
     |(go_at_call 135;refine(zpz ew).mono ?_;rintro e w' ⟨rfl,rfl⟩)
     |(at_builtin
       refine zad _ rfl (.tmp 43) (.tmp 44) _ rfl (w.heap.size+1) 5 i0 _ 1 1 Tryz.underlying110 aH aF aC ax rfl (by omega) A out.length c (out.map U8) rfl (bI.ext ((Z5 _).alloc _)) 0 _ 1 1 ([(0:UInt8)].map U8) rfl (zqf w2 0 _ _ (Nat.zero_le _)) (zf6 _) (by omega) (by omega) (by have:=ew.lt;simp;omega) ?_
       intro A3 c3 w3 eN dQ j6 _;have gD:=zeb c3 (l:=out++[0]) (by rw[List.map_append];exact eN.rd)))
    go_ret3
    refine⟨?_,(ah.alloc _).then j6 (by omega)⟩
    rw[Hn.out,hI.eq,zgk _ _ (by rw[H0.out]at Hb;exact Hb.out)];rfl
  have f2:((b.toNat:Int)==0)=false:=zbm h0
  have cQ:(1:Int)≤b.toNat:=by omega
  by_cases h1:b.toNat<64
  ·have f1:((b.toNat:Int)/64==0)=true:=by rw[beq_iff_eq];omega
   by_cases h2:msg.length<pos'+1+b.toNat
   ·go_wp2_with fail;refine(zdc hI.cur eh b Hb.out).mono ?_;rintro e w2 ⟨rfl,ew,aI⟩;have ah:Ext w w2:=hI.ext.only aI (Z4 _)
    go_wp2_with fail;refine(zor ew (hg.ext ah) eh b.toNat (by unfold maxLen;omega) (by omega) (by omega)).mono ?_;rintro e w3 ⟨rfl,ao⟩
    go_wp2_with fail
    go_ret3
    refine⟨?_,ah.trans ao⟩;rw[Hn.out,hI.eq,zji _ _ b Hb.out h0 h1 h2];rfl
   have bX:(((msg.drop (pos'+1)).take b.toNat).length)=b.toNat:=by simp;omega
   have dE:=Z7 bX
   by_cases h3:255<out.length+1+b.toNat+1
   ·go_wp2_with fail;refine(zdc hI.cur eh b Hb.out).mono ?_;rintro e w2 ⟨rfl,ew,aI⟩;have ah:Ext w w2:=hI.ext.only aI (Z4 _)
    go_wp2_with fail;refine(zqv ew eh b.toNat (by omega)).mono ?_;rintro e w3 ⟨rfl,ei,cR⟩
    generalize (msg.drop (pos'+1)).take b.toNat=lab at*;have g1:255<(out.length:Int)+1+lab.length+1:=by rw[dE.out];omega
    have g0:(lab.length:Int)≤63:=by rw[dE.out];omega
    clear bX;go_wp2_with fail
    go_ret3
    refine⟨?_,ah.only cR (Z4 _)⟩;rw[Hn.out,hI.eq,zkw _ _ b Hb.out h0 h1 h2 h3];rfl
   ·go_wp2_with fail;refine(zdc hI.cur eh b Hb.out).mono ?_;rintro e w2 ⟨rfl,ew,aI⟩;have ah:Ext w w2:=hI.ext.only aI (Z4 _)
    have bI:=hI.own.only aI (by omega)
    have HL:=Z7 (zh2 msg ⟨pos',lim,nx,out⟩ b Hb.out h0 h1 h2 h3)
    go_wp2_with fail;refine(zqv ew eh b.toNat (by omega)).mono ?_;rintro e w3 ⟨rfl,ei,cR⟩
    have kN:=bI.only cR (by omega)
    have ao:Ext w w3:=ah.only cR (Z4 _)
    generalize (msg.drop (pos'+1)).take b.toNat=lab at*;have g1:(lab.length:Int)≤63:=by rw[dE.out];omega
    have g2:(out.length:Int)+1+lab.length+1≤255:=by rw[dE.out];omega
    clear bX;go_wp2_with(first
     |(at_builtin
       refine zad _ rfl (.tmp 66) (.tmp 68) _ rfl (w.heap.size+1) 5 i0 _ 1 1 Tryz.underlying110 aH aF aC ax rfl (by omega) A out.length c (out.map U8) rfl (kN.ext ((Z5 _).alloc _)) 0 _ 1 1 ([b].map U8) rfl (zqf w3 0 _ _ (Nat.zero_le _)) (zf6 _) (by omega) (by omega) (by have:=ei.lt;simp;omega) ?_
       intro A4 c4 w4 cL cY fg _;have fM:w.heap.size+1≤w4.heap.size:=by have h1:=fg.size;have h2:=ei.lt;simp at h1;omega)
     |(refine zbh _ rfl (.tmp 69) (.tmp 70) _ _ rfl (w.heap.size+1) 5 i0 Tryz.underlying110 Tryz.underlying9 aH aF aC ax A4 (out.length+1) c4 (out.map U8++[b].map U8) rfl cL lab rfl (by omega) fM ?_
       intro A5 c5 w5 ai bq aG))
    have e1:(out++b::lab).length=out.length+1+lab.length:=by simp;omega
    have E1:=Z7 e1
    clear e1;go_roundw
    case rel=>
     refine⟨⟨pos'+1+b.toNat,lim,nx,out++b::lab⟩,A5,c5,rfl,rfl,rfl,by dsimp only;rw[E1.out],⟨by dsimp only;omega,by dsimp only;rw[E1.out];omega,qg,?_,?_,?_,?_,hI.eq.trans HL.out⟩⟩
     ·exact((ei.ext ((Z5 _).alloc _)).below fg (by omega)).below aG (by omega)
     ·dsimp only;rw[E1.out];simpa using ai
     ·exact((ao.alloc _).then fg (by omega)).then aG (by omega)
     ·exact hg.ext (((ao.alloc _).then fg (by omega)).then aG (by omega))
    case measure=>
     simp only[intOf,lenOf];simp;omega
  have f1:((b.toNat:Int)/64==0)=false:=by rw[beq_eq_false_iff_ne];omega
  by_cases h2:b.toNat<192
  ·have f3:((b.toNat:Int)/64==3)=false:=by rw[beq_eq_false_iff_ne];omega
   go_wp2_with fail;refine(zdc hI.cur eh b Hb.out).mono ?_;rintro e w2 ⟨rfl,ew,aI⟩;go_wp2_with fail
   go_ret3
   refine⟨?_,hI.ext.only aI (Z4 _)⟩;rw[Hn.out,hI.eq,zku _ _ b Hb.out h0 h1 h2];rfl
  have f3:((b.toNat:Int)/64==3)=true:=by rw[beq_iff_eq];omega
  rcases hc:msg[pos'+1]? with _|c'
  ·have Hc:=Z7 hc
   clear hc;go_wp2_with fail;refine(zdc hI.cur eh b Hb.out).mono ?_;rintro e w2 ⟨rfl,ew,aI⟩;have ah:Ext w w2:=hI.ext.only aI (Z4 _)
   go_wp2_with fail;refine(zj3 ew (hg.ext ah) eh (by omega) Hc.out).mono ?_;rintro e w3 ⟨rfl,ao⟩
   go_wp2_with fail
   go_ret3
   refine⟨?_,ah.trans ao⟩;rw[Hn.out,hI.eq,zma _ _ b Hb.out h0 h2 Hc.out];rfl
  have Hc:=Z7 hc
  have ce:pos'+1<msg.length:=(List.getElem?_eq_some_iff.1 hc).1
  have nd:(c'.toNat:Int)≤255:=by have:=c'.toNat_lt;omega
  clear hc;have ha:=zGt b h2
  have ua:b.toNat - 192<64:=by omega
  have HX:=Z7 (rfl:(b.toNat - 192)=(b.toNat - 192))
  obtain⟨x,hx⟩:∃x,x=b.toNat - 192:=⟨_,rfl⟩
  rw[←hx]at ha ua;have ho:=zGb x c' ua
  obtain⟨to,ng⟩:∃to,to=x*256+c'.toNat:=⟨_,rfl⟩
  rw[←ng]at ho;have za:=Z7 (show to=(b.toNat - 192)*256+c'.toNat by rw[ng,hx])
  have lk:(to:Int)<16384:=by omega
  clear HX hx ng;by_cases h3:lim≤to
  ·have zd:(lim:Int)≤to:=by omega
   rcases nx with _|nx
   all_goals
    dsimp only[Option.getD,Option.isSome]at hI ⊢;go_wp2_with fail;refine(zdc hI.cur eh b Hb.out).mono ?_;rintro e w2 ⟨rfl,ew,aI⟩;have ah:Ext w w2:=hI.ext.only aI (Z4 _)
    go_wp2_with fail;refine(zdc ew eh c' Hc.out).mono ?_;rintro e w3 ⟨rfl,ei,cR⟩;have ao:Ext w w3:=ah.only cR (Z4 _)
    go_wp2_with(go_at_call 135;refine(zpz ei).mono ?_;rintro e w' ⟨rfl,rfl⟩)
    go_ret3
    refine⟨?_,ao⟩;rw[Hn.out,hI.eq,zkx _ _ b Hb.out h0 h2 c' Hc.out (by rw[←za.out];exact h3)];rfl
  ·have zd:(to:Int)<lim:=by omega
   have ub:to≤msg.length:=by omega
   have hJ:=zkv msg ⟨pos',lim,nx,out⟩ b Hb.out h0 h2 c' Hc.out (by rw[←za.out];exact h3)
   rw[←za.out]at hJ;have HJ:=Z7 hJ
   clear hJ;rcases nx with _|nx
   all_goals
    dsimp only[Option.getD,Option.isSome]at hI ⊢;go_wp2_with fail;refine(zdc hI.cur eh b Hb.out).mono ?_;rintro e w2 ⟨rfl,ew,aI⟩;have ah:Ext w w2:=hI.ext.only aI (Z4 _)
    go_wp2_with fail;refine(zdc ew eh c' Hc.out).mono ?_;rintro e w3 ⟨rfl,ei,cR⟩;have ao:Ext w w3:=ah.only cR (Z4 _)
    go_wp2_with(first|(go_at_call 135;refine(zpz ei).mono ?_;rintro e w' ⟨rfl,rfl⟩)|(go_at_call 136;refine(zqu ei eh _ (by omega) (by omega)).mono ?_;rintro e w4 ⟨rfl,sW,bS⟩))
    have aL:Ext w w4:=ao.only bS (Z4 _)
    rw[Int.toNat_natCast]at sW;go_roundw
    case rel=>
     refine⟨⟨to,to,some _,out⟩,A,c,?_,rfl,rfl,rfl,⟨ub,nf,ub,sW,((hI.own.only aI (by omega)).only cR (by omega)).only bS (by omega),aL,hg.ext aL,hI.eq.trans HJ.out⟩⟩
     simp<;>omega
    case measure=>
     simp only[intOf,lenOf];simp;omega
end Go.Proofs.YtdnpmapelmjfpaaGreatDoor
