/- Keys, the program's: get, told, bytes. -/
import Derived.Test.YtbifjamddbpcjaaGreatDoorYd
import Derived.Test.YtbifjamddbpcjaaGreatDoorAs
namespace Go.Proofs.YtbifjamddbpcjaaGreatDoor
set_option maxRecDepth 100000
set_option maxHeartbeats 25600000
open Go.RowKit
def jO:Option Nat->Int|none => -1|some i=>i
theorem Lh:∀ {ks:List Bs} {nm:Bs} {i:Nat},oc nm ks=some i->i<ks.length
 | [],_,_,h=>by simp [oc] at h
 | k::r,nm,i,h=>by
  rw [oc] at h;split at h
  ·cases h;simp
  ·cases hr:oc nm r with
   | none=>rw [hr] at h;cases h
   | some q=>
    rw [hr] at h;simp only [Option.map_some,Option.some.injEq] at h;have:=Lh hr;subst h;simp;omega
theorem AB (key:Bs):∀ (ks:List Bs) (i:Nat),Lib.idxFromS (ks.map (fun s:Bs=>(⟨s.toArray⟩:ByteArray))) ⟨key.toArray⟩ i=jO ((oc key ks).map (· + i))
 | [],i=>by simp [Lib.idxFromS,oc,jO]
 | s::r,i=>by
  have ih:=AB key r (i+1);rw [List.map_cons,Lib.idxFromS,oc];by_cases h:s=key
  ·subst h;simp [jO]
  ·have h2:¬ ((⟨s.toArray⟩:ByteArray)=⟨key.toArray⟩):=fun e=>h (Bz.1 e);rw [if_neg h2,if_neg h,ih,Option.map_map]
   congr 2
   funext x
   simp only [Function.comp_apply];omega
theorem OQ (key:Bs) (ks:List Bs):Lib.idxOfS (ks.map (fun s:Bs=>(⟨s.toArray⟩:ByteArray))) ⟨key.toArray⟩=jO (oc key ks):=by
 have:=AB key ks 0;simpa [Lib.idxOfS] using this
theorem rO (S:Nat->Prop) (ks:List Bs) (kv:Value) (key:Bs) (w:World) (h:aT S w kv ks.length (ks.map sV)) (hl:ks.length<=big) :
  Calls Tryz.prog 81 #[kv,.string ⟨key.toArray⟩] w fun e w'=>e=.returned (.int .i64 (jO (oc key ks)))/\w=w':=by
 rcases h with ⟨h0,a,c,rfl⟩|⟨g,o,c,rfl,hg,hc⟩
 ·have gH:ks=[]:=List.eq_nil_of_length_eq_zero h0;subst gH;refine (Tryz.slices_Index_string_empty a c ⟨key.toArray⟩ w).mono ?_;rintro e w' ⟨rfl,rfl⟩;exact ⟨rfl,rfl⟩
 ·refine (Tryz.slices_Index_string g o ks.length c (ks.map (fun s:Bs=>(⟨s.toArray⟩:ByteArray))) ⟨key.toArray⟩ w (by simp) (by unfold big at hl;omega) ?_).mono ?_
  ·intro j hj;have MH:j<ks.length:=by simpa using hj
   have:=hc j (sV ks[j]) (by simp [MH]);rw [this];simp [List.getD,MH]
  ·rintro e w' ⟨rfl,rfl⟩;refine ⟨?_,rfl⟩;rw [List.take_of_length_le (by simp),OQ]
theorem rM (S:Nat->Prop) (j:Jv) (v:Value) (key:Bs) (w:World) (hS:∀ g,S g->g<w.heap.size) (hat:aG S w j v) (jU:j.kind=6->j.keys.length=j.list.length) :
  Calls Tryz.prog 48 #[v,.string ⟨key.toArray⟩] w fun e w'=>∃ u,e=.returned (.tuple #[u,.bool (dy j key).isSome])/\aG S w' ((dy j key).getD Jv.pq) u/\Fr NoB w w':=by
 cases j with
 | mk k i t l ks=>
 simp only [aG] at hat;obtain ⟨lv,kv,rfl,hk,hi,ht,gH,hl,cs,hcs,dd⟩:=hat;obtain ⟨la,lc,rfl⟩:∃ a c,lv=.slice a l.length c:=by
  rcases dd with ⟨h0,a,c,rfl⟩|⟨g,o,c,rfl,hg,hc⟩
  ·exact ⟨a,c,by rw [h0]⟩
  ·exact ⟨_,c,rfl⟩
 have hgp:dy (.mk k i t l ks) key=if k=6 then (oc key ks).bind (fun i=>l[i]?) else none:=rfl
 rw [hgp];have f0:Fr NoB w (w.alloc (.cells #[.int .i64 k,.int .i64 i,.string ⟨t.toArray⟩,.slice la l.length lc,kv] 31)):=(Fr.refl _ _).alloc _;have g0:=Blk.new w 31 #[.int .i64 k,.int .i64 i,.string ⟨t.toArray⟩,.slice la l.length lc,kv];generalize hW0:w.alloc (.cells #[.int .i64 k,.int .i64 i,.string ⟨t.toArray⟩,.slice la l.length lc,kv] 31)=W0 at f0 g0;have f1:Fr NoB W0 (W0.alloc (.cells zj 31)):=(Fr.refl _ _).alloc _;have g1:=Blk.new W0 31 zj;have Gf:=f1.blk g0 (fun e=>e);have hs0:W0.heap.size=w.heap.size+1:=by rw [<- hW0];simp
 rw [hs0] at g1;generalize hW:W0.alloc (.cells zj 31)=W at f1 g1 Gf;have f:=f0.trans f1;have HW:Hid ((w.alloc (.cells #[.int .i64 k,.int .i64 i,.string ⟨t.toArray⟩,.slice la l.length lc,kv] 31)).alloc (.cells zj 31)=W):=hd' (by rw [hW0,hW]);have HI:=hd' (rO S ks kv key W (gH.1.fr (fun g hg=>f.block g (hS g hg) (fun e=>e))) gH.2.1);have c0:W.cell? ⟨w.heap.size,0,none⟩=some (.int .i64 k):=(Gf.cell 0).trans rfl;have c3:W.cell? ⟨w.heap.size,3,none⟩=some (.slice la l.length lc):=(Gf.cell 3).trans rfl;have c4:W.cell? ⟨w.heap.size,4,none⟩=some kv:=(Gf.cell 4).trans rfl;clear hW hW0 f0 f1 hs0 g0 Gf;have dw:(zj.all (·.oneCell'))=true:=bU _ _ _ _ _ _ _ _ _;by_cases h6:k=6
 ·subst h6;rw [if_pos rfl];cases hx:oc key ks with
  | none=>
   rw [hx] at HI;clear hx;go_enter Tryz.func48,Tryz.ntmps48;go_wp2_with (first|(go_at_call 81;(rw [HW.out];(with_reducible refine HI.out.mono ?_);rintro e w1 ⟨rfl,rfl⟩))|(refine wpList_store_row rfl 31 _ _ rfl (w.heap.size+1) zj rfl rfl 31 zj g1 ah rfl dw ?_));exact bodyPost_ret (v:=.tuple #[jV 0 0 [] (.slice none 0 0) (.slice none 0 0),.bool false]) (tq rfl _ _ (w.heap.size+1) _ _ _ _ _ _ rfl rfl (g1.setRow zj)) rfl ⟨_,rfl,xZ S _,f.setRow (w.heap.size+1) _ (Or.inl (by omega))⟩
  | some p=>
   rw [hx] at HI;have hpl:p<l.length:=by have h1:=Lh hx;have h2:=jU rfl;simp only [Jv.keys,Jv.list] at h2;omega
   clear hx;have e0:jO (some p)=(p:Int):=rfl;rw [e0] at HI;have abY:(Option.some p).bind (fun i=>l[i]?)=l[p]?:=rfl;rw [abY]
   ·have hp:=hpl;rw [List.getElem?_eq_getElem hp];rcases dd with ⟨h0,_⟩|⟨gl,ol,cl,he,Fl,hcell⟩
    ·omega
    ·simp only [Value.slice.injEq,true_and] at he;obtain ⟨rfl,rfl⟩:=he;obtain ⟨v0,v1,v2,v3,v4,a0,a1,a2,a3,a4,oz⟩:=aq.get l cs p hp hcs;have cc:∀ (q:Nat) z,cs[q]?=some z->W.cell? ⟨gl,ol+q,none⟩=some z:=fun q z hz=>(f.cell (p:=⟨gl,ol+q,none⟩) (hS gl Fl) (fun e=>e)).trans (hcell q z hz);have d0:W.cell? ⟨gl,ol+p*5,none⟩=some v0:=cc _ _ a0;have d1:W.cell? ⟨gl,ol+p*5+1,none⟩=some v1:=cc _ _ a1;have d2:W.cell? ⟨gl,ol+p*5+2,none⟩=some v2:=cc _ _ a2;have d3:W.cell? ⟨gl,ol+p*5+3,none⟩=some v3:=cc _ _ a3;have d4:W.cell? ⟨gl,ol+p*5+4,none⟩=some v4:=cc _ _ a4;have h1c:=dp oz.one;clear cc hcell a0 a1 a2 a3 a4 dw;generalize l[p]=x at *;go_enter Tryz.func48,Tryz.ntmps48;go_wp2_with (first|(go_at_call 81;(rw [HW.out];(with_reducible refine HI.out.mono ?_);rintro e w1 ⟨rfl,rfl⟩))|(refine wpList_store_row rfl 31 _ _ rfl (w.heap.size+1) #[v0,v1,v2,v3,v4] rfl rfl 31 zj g1 ah rfl h1c ?_));have fS:=f.setRow (w.heap.size+1) #[v0,v1,v2,v3,v4] (Or.inl (by omega));exact bodyPost_ret (v:=.tuple #[.agg #[v0,v1,v2,v3,v4],.bool true]) (tq rfl _ _ (w.heap.size+1) _ _ _ _ _ _ rfl rfl (g1.setRow #[v0,v1,v2,v3,v4])) rfl ⟨_,rfl,aG.fr (fun g hg=>fS.block g (hS g hg) (fun e=>e)) x _ oz,fS⟩
 ·rw [if_neg h6];generalize jO (oc key ks)=pp at HI;go_enter Tryz.func48,Tryz.ntmps48;go_wp2_with (first|(go_at_call 81;(rw [HW.out];(with_reducible refine HI.out.mono ?_);rintro e w1 ⟨rfl,rfl⟩))|(refine wpList_store_row rfl 31 _ _ rfl (w.heap.size+1) zj rfl rfl 31 zj g1 ah rfl dw ?_));exact bodyPost_ret (v:=.tuple #[jV 0 0 [] (.slice none 0 0) (.slice none 0 0),.bool false]) (tq rfl _ _ (w.heap.size+1) _ _ _ _ _ _ rfl rfl (g1.setRow zj)) rfl ⟨_,rfl,xZ S _,f.setRow (w.heap.size+1) _ (Or.inl (by omega))⟩
def Jh (j:Jv):Prop:=j.kind=6->j.keys.length=j.list.length
abbrev WG (nm:Bs):Value:=.iface 134 (.agg #[.string ⟨nm.toArray⟩])
abbrev jD (wd nm:Bs):Value:=.iface 136 (.agg #[.string ⟨wd.toArray⟩,WG nm])
def iF (o:Option Bs) (e:Ending):Prop:=match o with
 | some t=>e=.returned (.tuple #[.string ⟨t.toArray⟩,.nilIface])
 | none=>∃ wd nm:Bs,e=.returned (.tuple #[.string ⟨#[]⟩,jD wd nm])
theorem uV (j:Jv) (v:Value) (key:Bs) (w:World) (hat:aG (All w) w j v) (gi:Jh j) :
  Calls Tryz.prog 80 #[v,.string ⟨key.toArray⟩] w fun e w'=>iF (eS j key) e/\Fr NoB w w':=by
 obtain ⟨v0,v1,v2,v3,v4,rfl,dw⟩:=hat.form;have b0:=Blk.new w 31 #[v0,v1,v2,v3,v4];have f0:Fr NoB w (w.alloc (.cells #[v0,v1,v2,v3,v4] 31)):=(Fr.refl _ _).alloc _;have HG:Hid (∀ u,Fr NoB w u->Calls Tryz.prog 48 #[.agg #[v0,v1,v2,v3,v4],.string ⟨key.toArray⟩] u fun e w'=>∃ x,e=.returned (.tuple #[x,.bool (dy j key).isSome])/\aG (All u) w' ((dy j key).getD Jv.pq) x/\Fr NoB u w'):=hd' (fun u f=>rM (All u) j _ key u (fun _ h=>h) (hat.all f) gi);have HT:Hid (eS j key=match dy j key with|some x=>if x.kind=4 then some x.text else none|none=>none):=hd' rfl;generalize eS j key=o at *;clear hat;go_enter Tryz.func80,Tryz.ntmps80;go_upto_region 1 with fail;generalize w.alloc (.cells #[v0,v1,v2,v3,v4] 31)=W at *;have qC:=hd' (HG.out W f0);clear HG;go_upto_region 2 with (first|(refine gI rfl _ rfl w.heap.size rfl b0 rfl ?_)|(go_at_call 48;((with_reducible refine qC.out.mono ?_);rintro e u1 ⟨x1,rfl,h1,f1⟩;obtain ⟨FT,D9,FU,Ea,Eb,rfl,o1⟩:=h1.form;have n1:=Blk.new u1 31 zj))|(refine wpList_store_row rfl 31 _ _ rfl u1.heap.size #[FT,D9,FU,Ea,Eb] rfl rfl 31 zj n1 ah rfl o1 ?_));obtain ⟨p1,b1⟩:=iM u1 FT D9 FU Ea Eb;have F1:=f0.trans (f1.trans p1);obtain ⟨rfl,-,rfl,Ld⟩:=h1.abZ;obtain ⟨c0,c1,c2,c3,c4⟩:=b1.five;clear h1 n1 qC b0 b1 p1 f1 f0;generalize (u1.alloc (.cells zj 31)).setRow u1.heap.size #[.int .i64 ((dy j key).getD Jv.pq).kind,D9,.string ⟨((dy j key).getD Jv.pq).text.toArray⟩,Ea,Eb]=U1 at *;cases hg:dy j key with
 | none=>
  rw [hg] at HT c0 c2;simp only [Option.isSome_none,Option.getD_none] at c0 c2 ⊢;go_wp2_with fail;go_ret2;exact ⟨by rw [HT.out];exact ⟨_,_,rfl⟩,F1⟩
 | some x=>
  rw [hg] at HT c0 c2;simp only [Option.isSome_some,Option.getD_some] at c0 c2 ⊢;by_cases h4:x.kind=4
  ·rw [h4] at c0;have mn:Hid (o=some x.text):=hd' (by rw [HT.out];simp [h4]);go_wp2_with fail;go_ret2;exact ⟨by rw [mn.out];rfl,F1⟩
  ·have mn:Hid (o=none):=hd' (by rw [HT.out];simp [h4]);generalize x.kind=kk at *;go_wp2_with fail;go_ret2;exact ⟨by rw [mn.out];exact ⟨_,_,rfl⟩,F1⟩
theorem BV (j:Jv) (v:Value) (key:Bs) (w:World) (hat:aG (All w) w j v) (gi:Jh j)
  (hF:∀ u s,Fr NoB w u->eS j key=some s->Calls Tryz.prog 21 #[.string ⟨s.toArray⟩] u fun e w'=>e=.returned (.tuple #[.string ⟨((fE s).getD []).toArray⟩,.int .i64 (if (fE s).isSome then 0 else 11)])/\Fr NoB u w') :
  Calls Tryz.prog 82 #[v,.string ⟨key.toArray⟩] w fun e w'=>iF (bytesK j key) e/\Fr NoB w w':=by
 obtain ⟨v0,v1,v2,v3,v4,rfl,dw⟩:=hat.form;have b0:=Blk.new w 31 #[v0,v1,v2,v3,v4];have f0:Fr NoB w (w.alloc (.cells #[v0,v1,v2,v3,v4] 31)):=(Fr.refl _ _).alloc _;have HG:Hid (∀ u,Fr NoB w u->Calls Tryz.prog 80 #[.agg #[v0,v1,v2,v3,v4],.string ⟨key.toArray⟩] u fun e w'=>iF (eS j key) e/\Fr NoB u w'):=hd' (fun u f=>uV j _ key u (hat.all f) gi);have HT:Hid (bytesK j key=(eS j key).bind fE):=hd' rfl;generalize bytesK j key=o at *;have HF:=hd' hF;clear hat hF;go_enter Tryz.func82,Tryz.ntmps82;go_upto_region 1 with fail;generalize w.alloc (.cells #[v0,v1,v2,v3,v4] 31)=W at *;have qC:=hd' (HG.out W f0);clear HG;cases ht:eS j key with
 | none=>
  rw [ht] at qC HT;go_wp2_with (first|(refine gI rfl _ rfl w.heap.size rfl b0 rfl ?_)|(go_at_call 80;((with_reducible refine qC.out.mono ?_);rintro e u1 ⟨⟨wd,nm,rfl⟩,f1⟩)));go_ret2;exact ⟨by rw [HT.out];exact ⟨_,_,rfl⟩,f0.trans f1⟩
 | some s=>
  have Qa:Hid (∀ u,Fr NoB w u->Calls Tryz.prog 21 #[.string ⟨s.toArray⟩] u fun e w'=>e=.returned (.tuple #[.string ⟨((fE s).getD []).toArray⟩,.int .i64 (if (fE s).isSome then 0 else 11)])/\Fr NoB u w'):=hd' (fun u f=>HF.out u s f ht);rw [ht] at qC HT;clear ht HF;have mn:Hid (o=fE s):=hd' HT.out;clear HT;cases hs:fE s with
  | none=>
   rw [hs] at Qa mn;go_wp2_with (first|(refine gI rfl _ rfl w.heap.size rfl b0 rfl ?_)|(go_at_call 80;((with_reducible refine qC.out.mono ?_);rintro e u1 ⟨he,f1⟩;obtain rfl:=he))|(go_at_call 21;((with_reducible refine (Qa.out _ (f0.trans f1)).mono ?_);rintro e u2 ⟨rfl,f2⟩)));go_ret2;exact ⟨by rw [mn.out];exact ⟨_,_,rfl⟩,(f0.trans f1).trans f2⟩
  | some t=>
   rw [hs] at Qa mn;go_wp2_with (first|(refine gI rfl _ rfl w.heap.size rfl b0 rfl ?_)|(go_at_call 80;((with_reducible refine qC.out.mono ?_);rintro e u1 ⟨he,f1⟩;obtain rfl:=he))|(go_at_call 21;((with_reducible refine (Qa.out _ (f0.trans f1)).mono ?_);rintro e u2 ⟨rfl,f2⟩)));go_ret2;exact ⟨by rw [mn.out];rfl,(f0.trans f1).trans f2⟩
open Go.RowKit Go.Extern.Stop Go.Stop Go.Extern
theorem G6 (t:Addr) (w:World):(ReflectliteValue.unpack (.iface 138 (.pointer (some t)))).run Tryz.prog w
  = .ok (.agg #[.pointer (some ⟨9,138,none⟩),.pointer (some ⟨w.heap.size,0,none⟩),.int .u64 150]) (w.alloc (.cells #[.pointer (some t)] 138)):=by kernel_rfl
theorem SF (a:Addr) (w:World):(ReflectliteValue.methodAny (ReflectliteValue.valueError "reflectlite.Value.Type" 0) (fun t _ _ _=>ReflectliteType.toType t) #[.agg #[.pointer (some ⟨9,138,none⟩),.pointer (some a),.int .u64 150]]).run Tryz.prog w
  = .ok (.iface 258 (.agg #[.pointer (some ⟨9,138,none⟩)])) w:=by kernel_rfl
theorem SG (w:World):((ReflectliteType.abiMethod fun t=>(fun a:Nat=>Value.int IntKind.u8 (a:Int)) <$> Rtype.kind t) #[.pointer (some ⟨9,138,none⟩)]).run Tryz.prog w=.ok (.int .u8 22) w:=by kernel_rfl
theorem SH (w:World):((ReflectliteType.abiMethod fun t=>(fun a:Nat=>Value.int IntKind.u8 (a:Int)) <$> Rtype.kind t) #[.pointer (some ⟨9,134,none⟩)]).run Tryz.prog w=.ok (.int .u8 25) w:=by kernel_rfl
theorem EB (a:Addr) (w:World):(ReflectliteValue.parts (.agg #[.pointer (some ⟨9,138,none⟩),.pointer (some a),.int .u64 150])).run Tryz.prog w=.ok (some (138,a,150)) w:=by kernel_rfl
theorem OS (a p:Addr) (W:World) (ha:W.cell? a=some (.pointer (some p))) :
  (ReflectliteValue.method (ReflectliteValue.valueError "reflectlite.Value.IsNil" 0) ReflectliteValue.isNil #[.agg #[.pointer (some ⟨9,138,none⟩),.pointer (some a),.int .u64 150]]).run Tryz.prog W=.ok (.bool false) W:=by
 rw [Y2];simp only [Sem.run_bind,EB,Result.andThen];simp [ReflectliteValue.isNil,loadVar,isAgg,underlying,Tryz.underlying138,ha,Result.andThen]
theorem SI (w:World):(ReflectliteType.method ReflectliteType.elem #[.agg #[.pointer (some ⟨9,138,none⟩)]]).run Tryz.prog w=.ok (.iface 258 (.agg #[.pointer (some ⟨9,134,none⟩)])) w:=by kernel_rfl
theorem SJ (w:World):(ReflectliteType.relation "Implements" ReflectliteType.implements_ #[.agg #[.pointer (some ⟨9,134,none⟩)],.iface 258 (.agg #[.pointer (some ⟨9,71,none⟩)])]).run Tryz.prog w=.ok (.bool true) w:=by kernel_rfl
theorem Li (v:Value) (w:World):(ReflectliteType.typeOf #[.iface 134 v]).run Tryz.prog w=.ok (.iface 258 (.agg #[.pointer (some ⟨9,134,none⟩)])) w:=by kernel_rfl
theorem Lj (v:Value) (w:World):(ReflectliteType.typeOf #[.iface 136 v]).run Tryz.prog w=.ok (.iface 258 (.agg #[.pointer (some ⟨9,136,none⟩)])) w:=by kernel_rfl
theorem WH (w:World):(ReflectliteType.relation "AssignableTo" ReflectliteType.assignableTo #[.agg #[.pointer (some ⟨9,134,none⟩)],.iface 258 (.agg #[.pointer (some ⟨9,134,none⟩)])]).run Tryz.prog w=.ok (.bool true) w:=by kernel_rfl
theorem WI (w:World):(ReflectliteType.relation "AssignableTo" ReflectliteType.assignableTo #[.agg #[.pointer (some ⟨9,136,none⟩)],.iface 258 (.agg #[.pointer (some ⟨9,134,none⟩)])]).run Tryz.prog w=.ok (.bool false) w:=by kernel_rfl
theorem G7 (n:ByteArray) (w:World):(ReflectliteValue.unpack (.iface 134 (.agg #[.string n]))).run Tryz.prog w
  = .ok (.agg #[.pointer (some ⟨9,134,none⟩),.pointer (some ⟨w.heap.size,0,none⟩),.int .u64 153]) (w.alloc (.cells #[.string n] 134)):=by kernel_rfl
theorem Lk (w:World):(Rtype.elem? 138).run Tryz.prog w=.ok (some 134) w:=by kernel_rfl
theorem ab0 (p:Addr) (w:World):(ReflectliteValue.mk 134 p ReflectliteValue.flagAddr).run Tryz.prog w=.ok (.agg #[.pointer (some ⟨9,134,none⟩),.pointer (some p),.int .u64 409]) w:=by kernel_rfl
theorem SK (a p:Addr) (W:World) (ha:W.cell? a=some (.pointer (some p))) :
  (ReflectliteValue.method (ReflectliteValue.valueError "reflectlite.Value.Elem" 0) ReflectliteValue.elem #[.agg #[.pointer (some ⟨9,138,none⟩),.pointer (some a),.int .u64 150]]).run Tryz.prog W
   = .ok (.agg #[.pointer (some ⟨9,134,none⟩),.pointer (some p),.int .u64 409]) W:=by
 rw [Y2];simp only [Sem.run_bind,EB,Result.andThen];simp [ReflectliteValue.elem,loadVar,isAgg,underlying,Tryz.underlying138,ha,Result.andThen,Lk,ab0]
theorem Ll (a:Addr) (w:World):(ReflectliteValue.parts (.agg #[.pointer (some ⟨9,134,none⟩),.pointer (some a),.int .u64 409])).run Tryz.prog w=.ok (some (134,a,409)) w:=by kernel_rfl
theorem OT (a:Addr) (w:World):(ReflectliteValue.parts (.agg #[.pointer (some ⟨9,134,none⟩),.pointer (some a),.int .u64 153])).run Tryz.prog w=.ok (some (134,a,153)) w:=by kernel_rfl
theorem Ln (w:World):(Rtype.directlyAssignable 134 134).run Tryz.prog w=.ok true w:=by kernel_rfl
theorem WJ (ta b:Addr) (n:ByteArray) (old:Value) (W:World) (hb:W.cell? b=some (.string n)) (ht:W.cell? ta=some old) (hf:W.frozen? ta=false) :
  (ReflectliteValue.set #[.agg #[.pointer (some ⟨9,134,none⟩),.pointer (some ta),.int .u64 409],.agg #[.pointer (some ⟨9,134,none⟩),.pointer (some b),.int .u64 153]]).run Tryz.prog W
   = .ok (.tuple #[]) (W.setCell ta (.string n)):=by
 have hl:(loadCells b 1).run Tryz.prog W=.ok #[.string n] W:=run_loadCells_list W b [Value.string n] (fun j v hj=>by
  match j,hj with
  | 0,hj=>cases hj;simpa [Addr.add] using hb
  | j+1,hj=>simp at hj)
 rw [rls];simp only [Sem.run_bind,Ll,OT,Result.andThen];simp [ReflectliteValue.flagAddr,loadVar,isAgg,underlying,Tryz.underlying134,hl,Result.andThen,Ln,storeVar,Value.cells,storeCells,Addr.add];rw [run_store Tryz.prog W ta _ _ (by rfl)];simp [ht,hf]
theorem WK (p q:Value) (w:World):(Go.method 489 136 (.agg #[p,q]) "Unwrap").run Tryz.prog w=.ok (323,.agg #[p,q]) w:=by kernel_rfl
theorem WL (v:Value) (xT:TypeId) (w:World):(Instr.typeAssert (.iface 136 v) xT 263 true).run Tryz.prog w=.ok (.tuple #[.nilIface,.bool false]) w:=run_typeAssert_lacksB Tryz.underlying263 (by kernel_rfl) (by kernel_rfl) v xT w
theorem WM (p q:Value) (w:World):(Instr.typeAssert (.iface 136 (.agg #[p,q])) 71 266 true).run Tryz.prog w=.ok (.tuple #[.iface 136 (.agg #[p,q]),.bool true]) w:=by kernel_rfl
theorem OU {B:Nat} (p:Value) (n:ByteArray) (t:Nat) (w:World) (hx:Cx B w) (IK:Blk w t 134 #[.string ⟨#[]⟩]) :
  Calls Tryz.prog 83 #[.iface 136 (.agg #[p,.iface 134 (.agg #[.string n])]),.iface 138 (.pointer (some ⟨t,0,none⟩))] w fun ev w'=>ev=.returned (.bool true)/\Fr (Only t) w w'/\Blk w' t 134 #[.string n]:=by
 have hg:=hx.ety;have hlt:1<w.heap.size:=by have:=hx.nine;have:=hx.le;omega
 have WN:0<w.heap.size:=by have:=hx.nine;have:=hx.le;omega
 have Bm:t<w.heap.size:=IK.lt;have htc:=(IK.cell 0);have htf:=IK.frozen 0;have hVO:=@run_callFunc_extern Tryz.prog 135 _ (fun args=>ReflectliteValue.unpack (args.getD 0 (.tuple #[]))) Tryz.func135 (by kernel_rfl) (by kernel_rfl) (by kernel_rfl) (by kernel_rfl);have hVT:=@run_callFunc_extern Tryz.prog 136 _ (ReflectliteValue.methodAny (ReflectliteValue.valueError "reflectlite.Value.Type" 0) (fun t _ _ _=>ReflectliteType.toType t)) Tryz.func136 (by kernel_rfl) (by kernel_rfl) (by kernel_rfl) (by kernel_rfl);have hVN:=@run_callFunc_extern Tryz.prog 137 _ (ReflectliteValue.method (ReflectliteValue.valueError "reflectlite.Value.IsNil" 0) ReflectliteValue.isNil) Tryz.func137 (by kernel_rfl) (by kernel_rfl) (by kernel_rfl) (by kernel_rfl);have xO:=@run_callFunc_extern Tryz.prog 316 _ (ReflectliteType.abiMethod fun t=>do pure (.int .u8 (<- Rtype.kind t))) Tryz.func316 (by kernel_rfl) (by kernel_rfl) (by kernel_rfl) (by kernel_rfl);have hTE:=@run_callFunc_extern Tryz.prog 335 _ (ReflectliteType.method ReflectliteType.elem) Tryz.func335 (by kernel_rfl) (by kernel_rfl) (by kernel_rfl) (by kernel_rfl);have hTI:=@run_callFunc_extern Tryz.prog 336 _ (ReflectliteType.relation "Implements" ReflectliteType.implements_) Tryz.func336 (by kernel_rfl) (by kernel_rfl) (by kernel_rfl) (by kernel_rfl);have hTO:=@run_callFunc_extern Tryz.prog 185 _ ReflectliteType.typeOf Tryz.func185 (by kernel_rfl) (by kernel_rfl) (by kernel_rfl) (by kernel_rfl);have hTA:=@run_callFunc_extern Tryz.prog 333 _ (ReflectliteType.relation "AssignableTo" ReflectliteType.assignableTo) Tryz.func333 (by kernel_rfl) (by kernel_rfl) (by kernel_rfl) (by kernel_rfl);have hVE:=@run_callFunc_extern Tryz.prog 186 _ (ReflectliteValue.method (ReflectliteValue.valueError "reflectlite.Value.Elem" 0) ReflectliteValue.elem) Tryz.func186 (by kernel_rfl) (by kernel_rfl) (by kernel_rfl) (by kernel_rfl);have hVS:=@run_callFunc_extern Tryz.prog 187 _ ReflectliteValue.set Tryz.func187 (by kernel_rfl) (by kernel_rfl) (by kernel_rfl) (by kernel_rfl);have f1:=G6;have f2:=SF;have f3:=Qk;have f4:=SG;have f5:=SH;have f6:=fun a W=>OS a ⟨t,0,none⟩ W;have f7:=Ql;have f8:=Qm;have f9:=SI;have f10:=SJ;have f11:=Lj;have f12:=Li;have f13:=WI;have f14:=WH;have f15:=WO;have f16:=WK;have f17:=WL;have f18:=WM;have f19:=G7;have WQ:Fr NoB (w.alloc (.cells #[.pointer (some ⟨t,0,none⟩)] 138)) ((((w.alloc (.cells #[.pointer (some ⟨t,0,none⟩)] 138)).alloc (.cells #[.pointer (some ⟨9,138,none⟩),.pointer (some ⟨w.heap.size,0,none⟩),.int .u64 150] 200)).alloc (.cells #[.pointer (some ⟨9,138,none⟩),.pointer (some ⟨w.heap.size,0,none⟩),.int .u64 150] 200)).alloc (.cells #[p,.iface 134 (.agg #[.string n])] 136)):=(((Fr.refl _ _).alloc _).alloc _).alloc _;have f20:=SK ⟨w.heap.size,0,none⟩ ⟨t,0,none⟩ _ ((WQ.cell (p:=⟨w.heap.size,0,none⟩) (by simp) (fun e=>e)).trans ((Blk.new w _ _).cell 0));have SL:Fr NoB w ((((((w.alloc (.cells #[.pointer (some ⟨t,0,none⟩)] 138)).alloc (.cells #[.pointer (some ⟨9,138,none⟩),.pointer (some ⟨w.heap.size,0,none⟩),.int .u64 150] 200)).alloc (.cells #[.pointer (some ⟨9,138,none⟩),.pointer (some ⟨w.heap.size,0,none⟩),.int .u64 150] 200)).alloc (.cells #[p,.iface 134 (.agg #[.string n])] 136)).alloc (.cells #[.string n] 134))):=(((((Fr.refl _ _).alloc _).alloc _).alloc _).alloc _).alloc _;have b5:=SL.blk IK (fun e=>e);have f21:=WJ ⟨t,0,none⟩ ⟨w.heap.size+1+1+1+1,0,none⟩ n (.string ⟨#[]⟩) _ (by rw [World.cell?_alloc_at _ _ _ _ (by simp)];rfl) (b5.cell 0) (b5.frozen 0);have FR:=hd' SL;have B5:=hd' b5;clear WQ SL b5;go_enter Tryz.func83,Tryz.ntmps83;go_wp2;refine wp_loop_rounds 2 ?_;rw [rounds_succ];go_wp2;rw [rounds_succ];go_wp2;go_ret;exact ⟨rfl,(FR.out.cT).only _,by have:=B5.out.aS 0 (.string n);simpa using this⟩
theorem Fv {B:Nat} (wd nm:Bs) (w:World) (hx:Cx B w) :
  Calls Tryz.prog 43 #[jD wd nm] w fun ev w'=>ev=.returned (.bool true)/\Fr NoB w w':=by
 have hb:=Blk.new w 134 #[.string ⟨#[]⟩];have hf:Fr NoB w (w.alloc (.cells #[.string ⟨#[]⟩] 134)):=(Fr.refl _ _).alloc _;have Hb:=hd' hb;have Hx:=hd' (hx.eG hf);clear hb;go_enter Tryz.func43,Tryz.ntmps43;go_wp2_with (go_at_call 83;((with_reducible refine (OU _ _ w.heap.size _ Hx.out Hb.out).mono ?_);rintro e w1 ⟨rfl,f1,b1⟩));go_ret;exact ⟨rfl,hf.andThen f1 (fun j hj e=>by subst e;omega)⟩
theorem Jm (w:World):Calls Tryz.prog 43 #[.nilIface] w fun ev w'=>ev=.returned (.bool false)/\Fr NoB w w':=by
 have hA:Hid (∀ (x:Value) (u:World),Calls Tryz.prog 83 #[.nilIface,x] u fun ev w'=>ev=.returned (.bool false)/\w'=u):=hd' (fun x u=>by
  go_enter Tryz.func83,Tryz.ntmps83;go_wp2;go_ret;exact ⟨rfl,rfl⟩)
 go_enter Tryz.func43,Tryz.ntmps43;go_wp2_with (go_at_call 83;((with_reducible refine (hA.out _ _).mono ?_);rintro e w1 ⟨rfl,rfl⟩));go_ret;exact ⟨rfl,(Fr.refl _ _).alloc _⟩
end Go.Proofs.YtbifjamddbpcjaaGreatDoor
