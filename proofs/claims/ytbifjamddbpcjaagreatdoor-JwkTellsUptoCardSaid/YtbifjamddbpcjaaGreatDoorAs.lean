/- errors.As at an error of package text: its walk, by contracts (after the kit's worked example toyas). -/
import Derived.Test.YtbifjamddbpcjaaGreatDoorLib
import Derived.LaidEql
import Derived.Stop.Asserts
import Derived.RowKitTokens
namespace Go.Proofs.YtbifjamddbpcjaaGreatDoor
set_option maxRecDepth 100000
set_option maxHeartbeats 25600000
open Go.RowKit Go.Extern.Stop Go.Stop Go.Extern
abbrev hd (t:Nat):Value:=.pointer (some ⟨9,t,none⟩)
theorem Mh (t:Addr) (w:World):(ReflectliteValue.unpack (.iface 145 (.pointer (some t)))).run Tryz.prog w
  = .ok (.agg #[.pointer (some ⟨9,145,none⟩),.pointer (some ⟨w.heap.size,0,none⟩),.int .u64 150]) (w.alloc (.cells #[.pointer (some t)] 145)):=by kernel_rfl
theorem Ya (a:Addr) (w:World):(ReflectliteValue.methodAny (ReflectliteValue.valueError "reflectlite.Value.Type" 0) (fun t _ _ _=>ReflectliteType.toType t) #[.agg #[.pointer (some ⟨9,145,none⟩),.pointer (some a),.int .u64 150]]).run Tryz.prog w
  = .ok (.iface 258 (.agg #[.pointer (some ⟨9,145,none⟩)])) w:=by kernel_rfl
theorem Yb (w:World):((ReflectliteType.abiMethod fun t=>(fun a:Nat=>Value.int IntKind.u8 (a:Int)) <$> Rtype.kind t) #[.pointer (some ⟨9,145,none⟩)]).run Tryz.prog w=.ok (.int .u8 22) w:=by kernel_rfl
theorem Yc (w:World):((ReflectliteType.abiMethod fun t=>(fun a:Nat=>Value.int IntKind.u8 (a:Int)) <$> Rtype.kind t) #[.pointer (some ⟨9,144,none⟩)]).run Tryz.prog w=.ok (.int .u8 25) w:=by kernel_rfl
theorem Y2 (z:Sem Value) (f:TypeId->Addr->Nat->Nat->Sem Value) (v:Value) :
  ReflectliteValue.method z f #[v]=(do match <- ReflectliteValue.parts v with|none=>z|some (t,a,fl)=>f t a fl (fl % 32)):=rfl
theorem Mi (a:Addr) (w:World):(ReflectliteValue.parts (.agg #[.pointer (some ⟨9,145,none⟩),.pointer (some a),.int .u64 150])).run Tryz.prog w=.ok (some (145,a,150)) w:=by kernel_rfl
theorem T6 (a p:Addr) (W:World) (ha:W.cell? a=some (.pointer (some p))) :
  (ReflectliteValue.method (ReflectliteValue.valueError "reflectlite.Value.IsNil" 0) ReflectliteValue.isNil #[.agg #[.pointer (some ⟨9,145,none⟩),.pointer (some a),.int .u64 150]]).run Tryz.prog W=.ok (.bool false) W:=by
 rw [Y2];simp only [Sem.run_bind,Mi,Result.andThen];simp [ReflectliteValue.isNil,loadVar,isAgg,underlying,Tryz.underlying145,ha,Result.andThen]
theorem Yd (w:World):(ReflectliteType.method ReflectliteType.elem #[.agg #[.pointer (some ⟨9,145,none⟩)]]).run Tryz.prog w=.ok (.iface 258 (.agg #[.pointer (some ⟨9,144,none⟩)])) w:=by kernel_rfl
theorem Ye (w:World):(ReflectliteType.relation "Implements" ReflectliteType.implements_ #[.agg #[.pointer (some ⟨9,144,none⟩)],.iface 258 (.agg #[.pointer (some ⟨9,71,none⟩)])]).run Tryz.prog w=.ok (.bool true) w:=by kernel_rfl
theorem Pz (v:Value) (w:World):(ReflectliteType.typeOf #[.iface 144 v]).run Tryz.prog w=.ok (.iface 258 (.agg #[.pointer (some ⟨9,144,none⟩)])) w:=by kernel_rfl
theorem PA (v:Value) (w:World):(ReflectliteType.typeOf #[.iface 211 v]).run Tryz.prog w=.ok (.iface 258 (.agg #[.pointer (some ⟨9,211,none⟩)])) w:=by kernel_rfl
theorem adj (w:World):(ReflectliteType.relation "AssignableTo" ReflectliteType.assignableTo #[.agg #[.pointer (some ⟨9,144,none⟩)],.iface 258 (.agg #[.pointer (some ⟨9,144,none⟩)])]).run Tryz.prog w=.ok (.bool true) w:=by kernel_rfl
theorem adk (w:World):(ReflectliteType.relation "AssignableTo" ReflectliteType.assignableTo #[.agg #[.pointer (some ⟨9,211,none⟩)],.iface 258 (.agg #[.pointer (some ⟨9,144,none⟩)])]).run Tryz.prog w=.ok (.bool false) w:=by kernel_rfl
theorem Mj (n:Int) (w:World):(ReflectliteValue.unpack (.iface 144 (.agg #[.int .i64 n]))).run Tryz.prog w
  = .ok (.agg #[.pointer (some ⟨9,144,none⟩),.pointer (some ⟨w.heap.size,0,none⟩),.int .u64 153]) (w.alloc (.cells #[.int .i64 n] 144)):=by kernel_rfl
theorem PB (w:World):(Rtype.elem? 145).run Tryz.prog w=.ok (some 144) w:=by kernel_rfl
theorem mkW (p:Addr) (w:World):(ReflectliteValue.mk 144 p ReflectliteValue.flagAddr).run Tryz.prog w=.ok (.agg #[.pointer (some ⟨9,144,none⟩),.pointer (some p),.int .u64 409]) w:=by kernel_rfl
theorem elemV (a p:Addr) (W:World) (ha:W.cell? a=some (.pointer (some p))) :
  (ReflectliteValue.method (ReflectliteValue.valueError "reflectlite.Value.Elem" 0) ReflectliteValue.elem #[.agg #[.pointer (some ⟨9,145,none⟩),.pointer (some a),.int .u64 150]]).run Tryz.prog W
   = .ok (.agg #[.pointer (some ⟨9,144,none⟩),.pointer (some p),.int .u64 409]) W:=by
 rw [Y2];simp only [Sem.run_bind,Mi,Result.andThen];simp [ReflectliteValue.elem,loadVar,isAgg,underlying,Tryz.underlying145,ha,Result.andThen,PB,mkW]
theorem PC (a:Addr) (w:World):(ReflectliteValue.parts (.agg #[.pointer (some ⟨9,144,none⟩),.pointer (some a),.int .u64 409])).run Tryz.prog w=.ok (some (144,a,409)) w:=by kernel_rfl
theorem T7 (a:Addr) (w:World):(ReflectliteValue.parts (.agg #[.pointer (some ⟨9,144,none⟩),.pointer (some a),.int .u64 153])).run Tryz.prog w=.ok (some (144,a,153)) w:=by kernel_rfl
theorem PD (w:World):(Rtype.directlyAssignable 144 144).run Tryz.prog w=.ok true w:=by kernel_rfl
theorem WO (h:Value) (w:World):(Go.method 489 258 (.agg #[h]) "AssignableTo").run Tryz.prog w=.ok (333,.agg #[h]) w:=by kernel_rfl
theorem rls (v x:Value):ReflectliteValue.set #[v,x]=(do
  let (some (dst,a,fl),some (src,b,_)):=(<- ReflectliteValue.parts v,<- ReflectliteValue.parts x)
   | unsupported (.noEntry "extern/(internal/reflectlite.Value).Set.zeroValue")
  if fl / ReflectliteValue.flagAddr % 2==0 then unsupported (.noEntry "extern/(internal/reflectlite.Value).Set.unaddressable")
  let val <- loadVar src b
  if <- Rtype.directlyAssignable dst src then storeVar dst a val
  else if <- Rtype.implements dst src then
   if (<- Rtype.kind src)==20 then
    match val with
    | .nilIface=>unsupported (.noEntry "extern/reflectlite: a nil value of one interface type handed on as a value of another")
    | _=>storeVar dst a val
   else storeVar dst a (.iface src val)
  else panicString ("reflectlite.Set: value of type " ++ (<- Rtype.spelt src) ++ " is not assignable to type " ++ (<- Rtype.spelt dst))
  pure (.tuple #[])):=rfl
theorem adl (ta b:Addr) (n:Int) (old:Value) (W:World) (hb:W.cell? b=some (.int .i64 n)) (ht:W.cell? ta=some old) (hf:W.frozen? ta=false) :
  (ReflectliteValue.set #[.agg #[.pointer (some ⟨9,144,none⟩),.pointer (some ta),.int .u64 409],.agg #[.pointer (some ⟨9,144,none⟩),.pointer (some b),.int .u64 153]]).run Tryz.prog W
   = .ok (.tuple #[]) (W.setCell ta (.int .i64 n)):=by
 have hl:(loadCells b 1).run Tryz.prog W=.ok #[.int .i64 n] W:=run_loadCells_list W b [Value.int .i64 n] (fun j v hj=>by
  match j,hj with
  | 0,hj=>cases hj;simpa [Addr.add] using hb
  | j+1,hj=>simp at hj)
 rw [rls];simp only [Sem.run_bind,PC,T7,Result.andThen];simp [ReflectliteValue.flagAddr,loadVar,isAgg,underlying,Tryz.underlying144,hl,Result.andThen,PD,storeVar,Value.cells,storeCells,Addr.add];rw [run_store Tryz.prog W ta _ _ (by rfl)];simp [ht,hf]
theorem Qk (h:Value) (w:World):(Go.method 489 258 (.agg #[h]) "Kind").run Tryz.prog w=.ok (316,h) w:=by kernel_rfl
theorem Ql (h:Value) (w:World):(Go.method 489 258 (.agg #[h]) "Elem").run Tryz.prog w=.ok (335,.agg #[h]) w:=by kernel_rfl
theorem Qm (h:Value) (w:World):(Go.method 489 258 (.agg #[h]) "Implements").run Tryz.prog w=.ok (336,.agg #[h]) w:=by kernel_rfl
theorem adm (p q:Value) (w:World):(Go.method 489 211 (.agg #[p,q]) "Unwrap").run Tryz.prog w=.ok (331,.agg #[p,q]) w:=by kernel_rfl
theorem adn (v:Value) (xT:TypeId) (w:World):(Instr.typeAssert (.iface 211 v) xT 263 true).run Tryz.prog w=.ok (.tuple #[.nilIface,.bool false]) w:=run_typeAssert_lacksB Tryz.underlying263 (by kernel_rfl) (by kernel_rfl) v xT w
theorem ado (p q:Value) (w:World):(Instr.typeAssert (.iface 211 (.agg #[p,q])) 71 266 true).run Tryz.prog w=.ok (.tuple #[.iface 211 (.agg #[p,q]),.bool true]) w:=by kernel_rfl
theorem T8 {B:Nat} (p:Value) (n:Int) (t:Nat) (w:World) (hx:Cx B w) (IK:Blk w t 144 #[.int .i64 0]) :
  Calls Tryz.prog 83 #[.iface 211 (.agg #[p,.iface 144 (.agg #[.int .i64 n])]),.iface 145 (.pointer (some ⟨t,0,none⟩))] w fun ev w'=>ev=.returned (.bool true)/\Fr (Only t) w w'/\Blk w' t 144 #[.int .i64 n]:=by
 have hg:=hx.ety;have hlt:1<w.heap.size:=by have:=hx.nine;have:=hx.le;omega
 have WN:0<w.heap.size:=by have:=hx.nine;have:=hx.le;omega
 have Bm:t<w.heap.size:=IK.lt;have htc:=(IK.cell 0);have htf:=IK.frozen 0;have hVO:=@run_callFunc_extern Tryz.prog 135 _ (fun args=>ReflectliteValue.unpack (args.getD 0 (.tuple #[]))) Tryz.func135 (by kernel_rfl) (by kernel_rfl) (by kernel_rfl) (by kernel_rfl);have hVT:=@run_callFunc_extern Tryz.prog 136 _ (ReflectliteValue.methodAny (ReflectliteValue.valueError "reflectlite.Value.Type" 0) (fun t _ _ _=>ReflectliteType.toType t)) Tryz.func136 (by kernel_rfl) (by kernel_rfl) (by kernel_rfl) (by kernel_rfl);have hVN:=@run_callFunc_extern Tryz.prog 137 _ (ReflectliteValue.method (ReflectliteValue.valueError "reflectlite.Value.IsNil" 0) ReflectliteValue.isNil) Tryz.func137 (by kernel_rfl) (by kernel_rfl) (by kernel_rfl) (by kernel_rfl);have xO:=@run_callFunc_extern Tryz.prog 316 _ (ReflectliteType.abiMethod fun t=>do pure (.int .u8 (<- Rtype.kind t))) Tryz.func316 (by kernel_rfl) (by kernel_rfl) (by kernel_rfl) (by kernel_rfl);have hTE:=@run_callFunc_extern Tryz.prog 335 _ (ReflectliteType.method ReflectliteType.elem) Tryz.func335 (by kernel_rfl) (by kernel_rfl) (by kernel_rfl) (by kernel_rfl);have hTI:=@run_callFunc_extern Tryz.prog 336 _ (ReflectliteType.relation "Implements" ReflectliteType.implements_) Tryz.func336 (by kernel_rfl) (by kernel_rfl) (by kernel_rfl) (by kernel_rfl);have hTO:=@run_callFunc_extern Tryz.prog 185 _ ReflectliteType.typeOf Tryz.func185 (by kernel_rfl) (by kernel_rfl) (by kernel_rfl) (by kernel_rfl);have hTA:=@run_callFunc_extern Tryz.prog 333 _ (ReflectliteType.relation "AssignableTo" ReflectliteType.assignableTo) Tryz.func333 (by kernel_rfl) (by kernel_rfl) (by kernel_rfl) (by kernel_rfl);have hVE:=@run_callFunc_extern Tryz.prog 186 _ (ReflectliteValue.method (ReflectliteValue.valueError "reflectlite.Value.Elem" 0) ReflectliteValue.elem) Tryz.func186 (by kernel_rfl) (by kernel_rfl) (by kernel_rfl) (by kernel_rfl);have hVS:=@run_callFunc_extern Tryz.prog 187 _ ReflectliteValue.set Tryz.func187 (by kernel_rfl) (by kernel_rfl) (by kernel_rfl) (by kernel_rfl);have f1:=Mh;have f2:=Ya;have f3:=Qk;have f4:=Yb;have f5:=Yc;have f6:=fun a W=>T6 a ⟨t,0,none⟩ W;have f7:=Ql;have f8:=Qm;have f9:=Yd;have f10:=Ye;have f11:=PA;have f12:=Pz;have f13:=adk;have f14:=adj;have f15:=WO;have f16:=adm;have f17:=adn;have f18:=ado;have f19:=Mj;have WQ:Fr NoB (w.alloc (.cells #[.pointer (some ⟨t,0,none⟩)] 145)) ((((w.alloc (.cells #[.pointer (some ⟨t,0,none⟩)] 145)).alloc (.cells #[.pointer (some ⟨9,145,none⟩),.pointer (some ⟨w.heap.size,0,none⟩),.int .u64 150] 200)).alloc (.cells #[.pointer (some ⟨9,145,none⟩),.pointer (some ⟨w.heap.size,0,none⟩),.int .u64 150] 200)).alloc (.cells #[p,.iface 144 (.agg #[.int .i64 n])] 211)):=(((Fr.refl _ _).alloc _).alloc _).alloc _;have f20:=elemV ⟨w.heap.size,0,none⟩ ⟨t,0,none⟩ _ ((WQ.cell (p:=⟨w.heap.size,0,none⟩) (by simp) (fun e=>e)).trans ((Blk.new w _ _).cell 0));have SL:Fr NoB w ((((((w.alloc (.cells #[.pointer (some ⟨t,0,none⟩)] 145)).alloc (.cells #[.pointer (some ⟨9,145,none⟩),.pointer (some ⟨w.heap.size,0,none⟩),.int .u64 150] 200)).alloc (.cells #[.pointer (some ⟨9,145,none⟩),.pointer (some ⟨w.heap.size,0,none⟩),.int .u64 150] 200)).alloc (.cells #[p,.iface 144 (.agg #[.int .i64 n])] 211)).alloc (.cells #[.int .i64 n] 144))):=(((((Fr.refl _ _).alloc _).alloc _).alloc _).alloc _).alloc _;have b5:=SL.blk IK (fun e=>e);have f21:=adl ⟨t,0,none⟩ ⟨w.heap.size+1+1+1+1,0,none⟩ n (.int .i64 0) _ (by rw [World.cell?_alloc_at _ _ _ _ (by simp)];rfl) (b5.cell 0) (b5.frozen 0);have FR:=hd' SL;have B5:=hd' b5;clear WQ SL b5;go_enter Tryz.func83,Tryz.ntmps83;go_wp2;refine wp_loop_rounds 2 ?_;rw [rounds_succ];go_wp2;rw [rounds_succ];go_wp2;go_ret;exact ⟨rfl,(FR.out.cT).only _,by have:=B5.out.aS 0 (.int .i64 n);simpa using this⟩
theorem rK {B:Nat} (p:Value) (n:Int) (w:World) (hx:Cx B w) :
  Calls Tryz.prog 54 #[.iface 211 (.agg #[p,.iface 144 (.agg #[.int .i64 n])])] w fun ev w'=>ev=.returned (.int .i64 n)/\Fr NoB w w':=by
 have hb:=Blk.new w 144 #[.int .i64 0];have hf:Fr NoB w (w.alloc (.cells #[.int .i64 0] 144)):=(Fr.refl _ _).alloc _;have Hb:=hd' hb;have Hx:=hd' (hx.eG hf);clear hb;go_enter Tryz.func54,Tryz.ntmps54;go_wp2_with (go_at_call 83;((with_reducible refine (T8 p n w.heap.size _ Hx.out Hb.out).mono ?_);rintro e w1 ⟨rfl,f1,b1⟩;have c1:=b1.cell 0));go_ret;exact ⟨rfl,hf.andThen f1 (fun j hj e=>by subst e;omega)⟩
end Go.Proofs.YtbifjamddbpcjaaGreatDoor
