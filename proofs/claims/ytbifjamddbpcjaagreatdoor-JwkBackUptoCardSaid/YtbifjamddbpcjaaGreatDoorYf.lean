/- Keys, the program's: get, told, bytes. -/
import Derived.Test.YtbifjamddbpcjaaGreatDoorEa
import Derived.Test.YtbifjamddbpcjaaGreatDoorRs
import Derived.Test.YtbifjamddbpcjaaGreatDoorShelfA
import Derived.Test.YtbifjamddbpcjaaGreatDoorAs
import Derived.LaidEql
import Derived.Stop.Asserts
import Derived.RowKitTokens
namespace Go.Proofs.YtbifjamddbpcjaaGreatDoor
set_option maxRecDepth 100000
set_option maxHeartbeats 25600000
open Go.RowKit
def plcI:Option Nat→Int|none => -1|some i=>i
theorem plK_lt:∀ {ks:List Bs} {nm:Bs} {i:Nat},plK nm ks=some i→i<ks.length
 | [],_,_,h=>by simp [plK] at h
 | k::r,nm,i,h=>by
  rw [plK] at h
  split at h
  ·cases h;simp
  ·cases hr:plK nm r with
   | none=>rw [hr] at h;cases h
   | some q=>
    rw [hr] at h
    simp only [Option.map_some,Option.some.injEq] at h
    have:=plK_lt hr
    subst h
    simp;omega
theorem kidxFrom (key:Bs):∀ (ks:List Bs) (i:Nat),Lib.idxFromS (ks.map (fun s:Bs=>(⟨s.toArray⟩:ByteArray))) ⟨key.toArray⟩ i=plcI ((plK key ks).map (· + i))
 | [],i=>by simp [Lib.idxFromS,plK,plcI]
 | s::r,i=>by
  have ih:=kidxFrom key r (i+1)
  rw [List.map_cons,Lib.idxFromS,plK]
  by_cases h:s=key
  ·subst h
   simp [plcI]
  ·have h2:¬ ((⟨s.toArray⟩:ByteArray)=⟨key.toArray⟩):=fun e=>h (ba_inj.1 e)
   rw [if_neg h2,if_neg h,ih,Option.map_map]
   congr 2
   funext x
   simp only [Function.comp_apply]
   omega
theorem kidx_eq (key:Bs) (ks:List Bs):Lib.idxOfS (ks.map (fun s:Bs=>(⟨s.toArray⟩:ByteArray))) ⟨key.toArray⟩=plcI (plK key ks):=by
 have:=kidxFrom key ks 0
 simpa [Lib.idxOfS] using this
theorem kindex_any (S:Nat→Prop) (ks:List Bs) (kv:Value) (key:Bs) (w:World) (h:InMem S w kv ks.length (ks.map sV)) (hl:ks.length≤big) :
  Calls Tryz.prog 81 #[kv,.string ⟨key.toArray⟩] w fun e w'=>e=.returned (.int .i64 (plcI (plK key ks)))∧w=w':=by
 rcases h with ⟨h0,a,c,rfl⟩|⟨g,o,c,rfl,hg,hc⟩
 ·have hks:ks=[]:=List.eq_nil_of_length_eq_zero h0
  subst hks
  refine (Tryz.slices_Index_string_empty a c ⟨key.toArray⟩ w).mono ?_
  rintro e w' ⟨rfl,rfl⟩
  exact ⟨rfl,rfl⟩
 ·refine (Tryz.slices_Index_string g o ks.length c (ks.map (fun s:Bs=>(⟨s.toArray⟩:ByteArray))) ⟨key.toArray⟩ w (by simp) (by unfold big at hl;omega) ?_).mono ?_
  ·intro j hj
   have hj':j<ks.length:=by simpa using hj
   have:=hc j (sV ks[j]) (by simp [hj'])
   rw [this]
   simp [List.getD,hj']
  ·rintro e w' ⟨rfl,rfl⟩
   refine ⟨?_,rfl⟩
   rw [List.take_of_length_le (by simp),kidx_eq]
theorem kget_any (S:Nat→Prop) (j:Jv) (v:Value) (key:Bs) (w:World) (hS:∀ g,S g→g<w.heap.size) (hat:RAt S w j v) (hkl:j.kind=6→j.keys.length=j.list.length) :
  Calls Tryz.prog 48 #[v,.string ⟨key.toArray⟩] w fun e w'=>∃ u,e=.returned (.tuple #[u,.bool (gotP j key).isSome])∧RAt S w' ((gotP j key).getD Jv.nul) u∧Fr NoB w w':=by
 cases j with
 | mk k i t l ks=>
 simp only [RAt] at hat
 obtain ⟨lv,kv,rfl,hk,hi,ht,hks,hl,cs,hcs,hlm⟩:=hat
 obtain ⟨la,lc,rfl⟩:∃ a c,lv=.slice a l.length c:=by
  rcases hlm with ⟨h0,a,c,rfl⟩|⟨g,o,c,rfl,hg,hc⟩
  ·exact ⟨a,c,by rw [h0]⟩
  ·exact ⟨_,c,rfl⟩
 have hgp:gotP (.mk k i t l ks) key=if k=6 then (plK key ks).bind (fun i=>l[i]?) else none:=rfl
 rw [hgp]
 have f0:Fr NoB w (w.alloc (.cells #[.int .i64 k,.int .i64 i,.string ⟨t.toArray⟩,.slice la l.length lc,kv] 31)):=(Fr.refl _ _).alloc _
 have g0:=Blk.new w 31 #[.int .i64 k,.int .i64 i,.string ⟨t.toArray⟩,.slice la l.length lc,kv]
 generalize hW0:w.alloc (.cells #[.int .i64 k,.int .i64 i,.string ⟨t.toArray⟩,.slice la l.length lc,kv] 31)=W0 at f0 g0
 have f1:Fr NoB W0 (W0.alloc (.cells zj 31)):=(Fr.refl _ _).alloc _
 have g1:=Blk.new W0 31 zj
 have g0':=f1.blk g0 (fun e=>e)
 have hs0:W0.heap.size=w.heap.size+1:=by rw [← hW0];simp
 rw [hs0] at g1
 generalize hW:W0.alloc (.cells zj 31)=W at f1 g1 g0'
 have f:=f0.trans f1
 have HW:Hid ((w.alloc (.cells #[.int .i64 k,.int .i64 i,.string ⟨t.toArray⟩,.slice la l.length lc,kv] 31)).alloc (.cells zj 31)=W):=Lib.hid (by rw [hW0,hW])
 have HI:=Lib.hid (kindex_any S ks kv key W (hks.1.fr (fun g hg=>f.block g (hS g hg) (fun e=>e))) hks.2.1)
 have c0:W.cell? ⟨w.heap.size,0,none⟩=some (.int .i64 k):=(g0'.cell 0).trans rfl
 have c3:W.cell? ⟨w.heap.size,3,none⟩=some (.slice la l.length lc):=(g0'.cell 3).trans rfl
 have c4:W.cell? ⟨w.heap.size,4,none⟩=some kv:=(g0'.cell 4).trans rfl
 clear hW hW0 f0 f1 hs0 g0 g0'
 have hone:(zj.all (·.oneCell'))=true:=one_json _ _ _ _ _ _ _ _ _
 by_cases h6:k=6
 ·subst h6
  rw [if_pos rfl]
  cases hx:plK key ks with
  | none=>
   rw [hx] at HI
   clear hx
   go_enter Tryz.func48,Tryz.ntmps48
   go_wp2_with (first|(go_at_call 81;(rw [HW.out];(with_reducible refine HI.out.mono ?_);rintro e w1 ⟨rfl,rfl⟩))|(refine wpList_store_row rfl 31 _ _ rfl (w.heap.size+1) zj rfl rfl 31 zj g1 size_json rfl hone ?_))
   exact bodyPost_ret (v:=.tuple #[jV 0 0 [] (.slice none 0 0) (.slice none 0 0),.bool false]) (get_back rfl _ _ (w.heap.size+1) _ _ _ _ _ _ rfl rfl (g1.setRow zj)) rfl ⟨_,rfl,nul_at S _,f.setRow (w.heap.size+1) _ (Or.inl (by omega))⟩
  | some p=>
   rw [hx] at HI
   have hpl:p<l.length:=by have h1:=plK_lt hx;have h2:=hkl rfl;simp only [Jv.keys,Jv.list] at h2;omega
   clear hx
   have e0:plcI (some p)=(p:Int):=rfl
   rw [e0] at HI
   have hbnd:(Option.some p).bind (fun i=>l[i]?)=l[p]?:=rfl
   rw [hbnd]
   ·have hp:=hpl
    rw [List.getElem?_eq_getElem hp]
    rcases hlm with ⟨h0,_⟩|⟨gl,ol,cl,he,hgl,hcell⟩
    ·omega
    ·simp only [Value.slice.injEq,true_and] at he
     obtain ⟨rfl,rfl⟩:=he
     obtain ⟨v0,v1,v2,v3,v4,a0,a1,a2,a3,a4,hatx⟩:=RCells.get l cs p hp hcs
     have cc:∀ (q:Nat) z,cs[q]?=some z→W.cell? ⟨gl,ol+q,none⟩=some z:=fun q z hz=>(f.cell (p:=⟨gl,ol+q,none⟩) (hS gl hgl) (fun e=>e)).trans (hcell q z hz)
     have d0:W.cell? ⟨gl,ol+p*5,none⟩=some v0:=cc _ _ a0
     have d1:W.cell? ⟨gl,ol+p*5+1,none⟩=some v1:=cc _ _ a1
     have d2:W.cell? ⟨gl,ol+p*5+2,none⟩=some v2:=cc _ _ a2
     have d3:W.cell? ⟨gl,ol+p*5+3,none⟩=some v3:=cc _ _ a3
     have d4:W.cell? ⟨gl,ol+p*5+4,none⟩=some v4:=cc _ _ a4
     have h1c:=all_one hatx.one
     clear cc hcell a0 a1 a2 a3 a4 hone
     generalize l[p]=x at *
     go_enter Tryz.func48,Tryz.ntmps48
     go_wp2_with (first|(go_at_call 81;(rw [HW.out];(with_reducible refine HI.out.mono ?_);rintro e w1 ⟨rfl,rfl⟩))|(refine wpList_store_row rfl 31 _ _ rfl (w.heap.size+1) #[v0,v1,v2,v3,v4] rfl rfl 31 zj g1 size_json rfl h1c ?_))
     have fS:=f.setRow (w.heap.size+1) #[v0,v1,v2,v3,v4] (Or.inl (by omega))
     exact bodyPost_ret (v:=.tuple #[.agg #[v0,v1,v2,v3,v4],.bool true]) (get_back rfl _ _ (w.heap.size+1) _ _ _ _ _ _ rfl rfl (g1.setRow #[v0,v1,v2,v3,v4])) rfl ⟨_,rfl,RAt.fr (fun g hg=>fS.block g (hS g hg) (fun e=>e)) x _ hatx,fS⟩
 ·rw [if_neg h6]
  generalize plcI (plK key ks)=pp at HI
  go_enter Tryz.func48,Tryz.ntmps48
  go_wp2_with (first|(go_at_call 81;(rw [HW.out];(with_reducible refine HI.out.mono ?_);rintro e w1 ⟨rfl,rfl⟩))|(refine wpList_store_row rfl 31 _ _ rfl (w.heap.size+1) zj rfl rfl 31 zj g1 size_json rfl hone ?_))
  exact bodyPost_ret (v:=.tuple #[jV 0 0 [] (.slice none 0 0) (.slice none 0 0),.bool false]) (get_back rfl _ _ (w.heap.size+1) _ _ _ _ _ _ rfl rfl (g1.setRow zj)) rfl ⟨_,rfl,nul_at S _,f.setRow (w.heap.size+1) _ (Or.inl (by omega))⟩
def JvOk (j:Jv):Prop:=j.kind=6→j.keys.length=j.list.length
abbrev lackV (nm:Bs):Value:=.iface 134 (.agg #[.string ⟨nm.toArray⟩])
abbrev wrapV (wd nm:Bs):Value:=.iface 136 (.agg #[.string ⟨wd.toArray⟩,lackV nm])
def TextOr (o:Option Bs) (e:Ending):Prop:=match o with
 | some t=>e=.returned (.tuple #[.string ⟨t.toArray⟩,.nilIface])
 | none=>∃ wd nm:Bs,e=.returned (.tuple #[.string ⟨#[]⟩,wrapV wd nm])
theorem ktold_any (j:Jv) (v:Value) (key:Bs) (w:World) (hat:RAt (All w) w j v) (hok:JvOk j) :
  Calls Tryz.prog 80 #[v,.string ⟨key.toArray⟩] w fun e w'=>TextOr (toldK j key) e∧Fr NoB w w':=by
 obtain ⟨v0,v1,v2,v3,v4,rfl,hone⟩:=hat.form
 have b0:=Blk.new w 31 #[v0,v1,v2,v3,v4]
 have f0:Fr NoB w (w.alloc (.cells #[v0,v1,v2,v3,v4] 31)):=(Fr.refl _ _).alloc _
 have HG:Hid (∀ u,Fr NoB w u→Calls Tryz.prog 48 #[.agg #[v0,v1,v2,v3,v4],.string ⟨key.toArray⟩] u fun e w'=>∃ x,e=.returned (.tuple #[x,.bool (gotP j key).isSome])∧RAt (All u) w' ((gotP j key).getD Jv.nul) x∧Fr NoB u w'):=Lib.hid (fun u f=>kget_any (All u) j _ key u (fun _ h=>h) (hat.all f) hok)
 have HT:Hid (toldK j key=match gotP j key with|some x=>if x.kind=4 then some x.text else none|none=>none):=Lib.hid rfl
 generalize toldK j key=o at *
 clear hat
 go_enter Tryz.func80,Tryz.ntmps80
 go_upto_region 1 with fail
 generalize w.alloc (.cells #[v0,v1,v2,v3,v4] 31)=W at *
 have HG1:=Lib.hid (HG.out W f0)
 clear HG
 go_upto_region 2 with (first|(refine ldJ rfl _ rfl w.heap.size rfl b0 rfl ?_)|(go_at_call 48;((with_reducible refine HG1.out.mono ?_);rintro e u1 ⟨x1,rfl,h1,f1⟩;obtain ⟨x10,x11,x12,x13,x14,rfl,o1⟩:=h1.form;have n1:=Blk.new u1 31 zj))|(refine wpList_store_row rfl 31 _ _ rfl u1.heap.size #[x10,x11,x12,x13,x14] rfl rfl 31 zj n1 size_json rfl o1 ?_))
 obtain ⟨p1,b1⟩:=put_row u1 x10 x11 x12 x13 x14
 have F1:=f0.trans (f1.trans p1)
 obtain ⟨rfl,-,rfl,hbig⟩:=h1.get5
 obtain ⟨c0,c1,c2,c3,c4⟩:=b1.five
 clear h1 n1 HG1 b0 b1 p1 f1 f0
 generalize (u1.alloc (.cells zj 31)).setRow u1.heap.size #[.int .i64 ((gotP j key).getD Jv.nul).kind,x11,.string ⟨((gotP j key).getD Jv.nul).text.toArray⟩,x13,x14]=U1 at *
 cases hg:gotP j key with
 | none=>
  rw [hg] at HT c0 c2
  simp only [Option.isSome_none,Option.getD_none] at c0 c2 ⊢
  go_wp2_with fail
  go_ret2
  exact ⟨by rw [HT.out];exact ⟨_,_,rfl⟩,F1⟩
 | some x=>
  rw [hg] at HT c0 c2
  simp only [Option.isSome_some,Option.getD_some] at c0 c2 ⊢
  by_cases h4:x.kind=4
  ·rw [h4] at c0
   have HT2:Hid (o=some x.text):=Lib.hid (by rw [HT.out];simp [h4])
   go_wp2_with fail
   go_ret2
   exact ⟨by rw [HT2.out];rfl,F1⟩
  ·have HT2:Hid (o=none):=Lib.hid (by rw [HT.out];simp [h4])
   generalize x.kind=kk at *
   go_wp2_with fail
   go_ret2
   exact ⟨by rw [HT2.out];exact ⟨_,_,rfl⟩,F1⟩
theorem kbytes_any (j:Jv) (v:Value) (key:Bs) (w:World) (hat:RAt (All w) w j v) (hok:JvOk j)
  (hF:∀ u s,Fr NoB w u→toldK j key=some s→Calls Tryz.prog 21 #[.string ⟨s.toArray⟩] u fun e w'=>e=.returned (.tuple #[.string ⟨((from64 s).getD []).toArray⟩,.int .i64 (if (from64 s).isSome then 0 else 11)])∧Fr NoB u w') :
  Calls Tryz.prog 82 #[v,.string ⟨key.toArray⟩] w fun e w'=>TextOr (bytesK j key) e∧Fr NoB w w':=by
 obtain ⟨v0,v1,v2,v3,v4,rfl,hone⟩:=hat.form
 have b0:=Blk.new w 31 #[v0,v1,v2,v3,v4]
 have f0:Fr NoB w (w.alloc (.cells #[v0,v1,v2,v3,v4] 31)):=(Fr.refl _ _).alloc _
 have HG:Hid (∀ u,Fr NoB w u→Calls Tryz.prog 80 #[.agg #[v0,v1,v2,v3,v4],.string ⟨key.toArray⟩] u fun e w'=>TextOr (toldK j key) e∧Fr NoB u w'):=Lib.hid (fun u f=>ktold_any j _ key u (hat.all f) hok)
 have HT:Hid (bytesK j key=(toldK j key).bind from64):=Lib.hid rfl
 generalize bytesK j key=o at *
 have HF:=Lib.hid hF
 clear hat hF
 go_enter Tryz.func82,Tryz.ntmps82
 go_upto_region 1 with fail
 generalize w.alloc (.cells #[v0,v1,v2,v3,v4] 31)=W at *
 have HG1:=Lib.hid (HG.out W f0)
 clear HG
 cases ht:toldK j key with
 | none=>
  rw [ht] at HG1 HT
  go_wp2_with (first|(refine ldJ rfl _ rfl w.heap.size rfl b0 rfl ?_)|(go_at_call 80;((with_reducible refine HG1.out.mono ?_);rintro e u1 ⟨⟨wd,nm,rfl⟩,f1⟩)))
  go_ret2
  exact ⟨by rw [HT.out];exact ⟨_,_,rfl⟩,f0.trans f1⟩
 | some s=>
  have HF1:Hid (∀ u,Fr NoB w u→Calls Tryz.prog 21 #[.string ⟨s.toArray⟩] u fun e w'=>e=.returned (.tuple #[.string ⟨((from64 s).getD []).toArray⟩,.int .i64 (if (from64 s).isSome then 0 else 11)])∧Fr NoB u w'):=Lib.hid (fun u f=>HF.out u s f ht)
  rw [ht] at HG1 HT
  clear ht HF
  have HT2:Hid (o=from64 s):=Lib.hid HT.out
  clear HT
  cases hs:from64 s with
  | none=>
   rw [hs] at HF1 HT2
   go_wp2_with (first|(refine ldJ rfl _ rfl w.heap.size rfl b0 rfl ?_)|(go_at_call 80;((with_reducible refine HG1.out.mono ?_);rintro e u1 ⟨he,f1⟩;obtain rfl:=he))|(go_at_call 21;((with_reducible refine (HF1.out _ (f0.trans f1)).mono ?_);rintro e u2 ⟨rfl,f2⟩)))
   go_ret2
   exact ⟨by rw [HT2.out];exact ⟨_,_,rfl⟩,(f0.trans f1).trans f2⟩
  | some t=>
   rw [hs] at HF1 HT2
   go_wp2_with (first|(refine ldJ rfl _ rfl w.heap.size rfl b0 rfl ?_)|(go_at_call 80;((with_reducible refine HG1.out.mono ?_);rintro e u1 ⟨he,f1⟩;obtain rfl:=he))|(go_at_call 21;((with_reducible refine (HF1.out _ (f0.trans f1)).mono ?_);rintro e u2 ⟨rfl,f2⟩)))
   go_ret2
   exact ⟨by rw [HT2.out];rfl,(f0.trans f1).trans f2⟩
open Go.RowKit Go.Extern.Stop Go.Stop Go.Extern
theorem valueOfPL (t:Addr) (w:World):(ReflectliteValue.unpack (.iface 138 (.pointer (some t)))).run Tryz.prog w
  = .ok (.agg #[.pointer (some ⟨9,138,none⟩),.pointer (some ⟨w.heap.size,0,none⟩),.int .u64 150]) (w.alloc (.cells #[.pointer (some t)] 138)):=by kernel_rfl
theorem typePL (a:Addr) (w:World):(ReflectliteValue.methodAny (ReflectliteValue.valueError "reflectlite.Value.Type" 0) (fun t _ _ _=>ReflectliteType.toType t) #[.agg #[.pointer (some ⟨9,138,none⟩),.pointer (some a),.int .u64 150]]).run Tryz.prog w
  = .ok (.iface 258 (.agg #[.pointer (some ⟨9,138,none⟩)])) w:=by kernel_rfl
theorem kindPL (w:World):((ReflectliteType.abiMethod fun t=>(fun a:Nat=>Value.int IntKind.u8 (a:Int)) <$> Rtype.kind t) #[.pointer (some ⟨9,138,none⟩)]).run Tryz.prog w=.ok (.int .u8 22) w:=by kernel_rfl
theorem kindWL (w:World):((ReflectliteType.abiMethod fun t=>(fun a:Nat=>Value.int IntKind.u8 (a:Int)) <$> Rtype.kind t) #[.pointer (some ⟨9,134,none⟩)]).run Tryz.prog w=.ok (.int .u8 25) w:=by kernel_rfl
theorem partsPL (a:Addr) (w:World):(ReflectliteValue.parts (.agg #[.pointer (some ⟨9,138,none⟩),.pointer (some a),.int .u64 150])).run Tryz.prog w=.ok (some (138,a,150)) w:=by kernel_rfl
theorem isNilPL (a p:Addr) (W:World) (ha:W.cell? a=some (.pointer (some p))) :
  (ReflectliteValue.method (ReflectliteValue.valueError "reflectlite.Value.IsNil" 0) ReflectliteValue.isNil #[.agg #[.pointer (some ⟨9,138,none⟩),.pointer (some a),.int .u64 150]]).run Tryz.prog W=.ok (.bool false) W:=by
 rw [rlm]
 simp only [Sem.run_bind,partsPL,Result.andThen]
 simp [ReflectliteValue.isNil,loadVar,isAgg,underlying,Tryz.underlying138,ha,Result.andThen]
theorem elemPL (w:World):(ReflectliteType.method ReflectliteType.elem #[.agg #[.pointer (some ⟨9,138,none⟩)]]).run Tryz.prog w=.ok (.iface 258 (.agg #[.pointer (some ⟨9,134,none⟩)])) w:=by kernel_rfl
theorem implWL (w:World):(ReflectliteType.relation "Implements" ReflectliteType.implements_ #[.agg #[.pointer (some ⟨9,134,none⟩)],.iface 258 (.agg #[.pointer (some ⟨9,71,none⟩)])]).run Tryz.prog w=.ok (.bool true) w:=by kernel_rfl
theorem typeOfWL (v:Value) (w:World):(ReflectliteType.typeOf #[.iface 134 v]).run Tryz.prog w=.ok (.iface 258 (.agg #[.pointer (some ⟨9,134,none⟩)])) w:=by kernel_rfl
theorem typeOfTL (v:Value) (w:World):(ReflectliteType.typeOf #[.iface 136 v]).run Tryz.prog w=.ok (.iface 258 (.agg #[.pointer (some ⟨9,136,none⟩)])) w:=by kernel_rfl
theorem assWL (w:World):(ReflectliteType.relation "AssignableTo" ReflectliteType.assignableTo #[.agg #[.pointer (some ⟨9,134,none⟩)],.iface 258 (.agg #[.pointer (some ⟨9,134,none⟩)])]).run Tryz.prog w=.ok (.bool true) w:=by kernel_rfl
theorem assTL (w:World):(ReflectliteType.relation "AssignableTo" ReflectliteType.assignableTo #[.agg #[.pointer (some ⟨9,136,none⟩)],.iface 258 (.agg #[.pointer (some ⟨9,134,none⟩)])]).run Tryz.prog w=.ok (.bool false) w:=by kernel_rfl
theorem valueOfWL (n:ByteArray) (w:World):(ReflectliteValue.unpack (.iface 134 (.agg #[.string n]))).run Tryz.prog w
  = .ok (.agg #[.pointer (some ⟨9,134,none⟩),.pointer (some ⟨w.heap.size,0,none⟩),.int .u64 153]) (w.alloc (.cells #[.string n] 134)):=by kernel_rfl
theorem elemOfPL (w:World):(Rtype.elem? 138).run Tryz.prog w=.ok (some 134) w:=by kernel_rfl
theorem mkWL (p:Addr) (w:World):(ReflectliteValue.mk 134 p ReflectliteValue.flagAddr).run Tryz.prog w=.ok (.agg #[.pointer (some ⟨9,134,none⟩),.pointer (some p),.int .u64 409]) w:=by kernel_rfl
theorem elemVL (a p:Addr) (W:World) (ha:W.cell? a=some (.pointer (some p))) :
  (ReflectliteValue.method (ReflectliteValue.valueError "reflectlite.Value.Elem" 0) ReflectliteValue.elem #[.agg #[.pointer (some ⟨9,138,none⟩),.pointer (some a),.int .u64 150]]).run Tryz.prog W
   = .ok (.agg #[.pointer (some ⟨9,134,none⟩),.pointer (some p),.int .u64 409]) W:=by
 rw [rlm]
 simp only [Sem.run_bind,partsPL,Result.andThen]
 simp [ReflectliteValue.elem,loadVar,isAgg,underlying,Tryz.underlying138,ha,Result.andThen,elemOfPL,mkWL]
theorem partsWaL (a:Addr) (w:World):(ReflectliteValue.parts (.agg #[.pointer (some ⟨9,134,none⟩),.pointer (some a),.int .u64 409])).run Tryz.prog w=.ok (some (134,a,409)) w:=by kernel_rfl
theorem partsWL (a:Addr) (w:World):(ReflectliteValue.parts (.agg #[.pointer (some ⟨9,134,none⟩),.pointer (some a),.int .u64 153])).run Tryz.prog w=.ok (some (134,a,153)) w:=by kernel_rfl
theorem directWL (w:World):(Rtype.directlyAssignable 134 134).run Tryz.prog w=.ok true w:=by kernel_rfl
theorem setWL (ta b:Addr) (n:ByteArray) (old:Value) (W:World) (hb:W.cell? b=some (.string n)) (ht:W.cell? ta=some old) (hf:W.frozen? ta=false) :
  (ReflectliteValue.set #[.agg #[.pointer (some ⟨9,134,none⟩),.pointer (some ta),.int .u64 409],.agg #[.pointer (some ⟨9,134,none⟩),.pointer (some b),.int .u64 153]]).run Tryz.prog W
   = .ok (.tuple #[]) (W.setCell ta (.string n)):=by
 have hl:(loadCells b 1).run Tryz.prog W=.ok #[.string n] W:=run_loadCells_list W b [Value.string n] (fun j v hj=>by
  match j,hj with
  | 0,hj=>cases hj;simpa [Addr.add] using hb
  | j+1,hj=>simp at hj)
 rw [rls]
 simp only [Sem.run_bind,partsWaL,partsWL,Result.andThen]
 simp [ReflectliteValue.flagAddr,loadVar,isAgg,underlying,Tryz.underlying134,hl,Result.andThen,directWL,storeVar,Value.cells,storeCells,Addr.add]
 rw [run_store Tryz.prog W ta _ _ (by rfl)]
 simp [ht,hf]
theorem mUnwL (p q:Value) (w:World):(Go.method 489 136 (.agg #[p,q]) "Unwrap").run Tryz.prog w=.ok (323,.agg #[p,q]) w:=by kernel_rfl
theorem taAsL (v:Value) (xT:TypeId) (w:World):(Instr.typeAssert (.iface 136 v) xT 263 true).run Tryz.prog w=.ok (.tuple #[.nilIface,.bool false]) w:=run_typeAssert_lacksB Tryz.underlying263 (by kernel_rfl) (by kernel_rfl) v xT w
theorem taUnL (p q:Value) (w:World):(Instr.typeAssert (.iface 136 (.agg #[p,q])) 71 266 true).run Tryz.prog w=.ok (.tuple #[.iface 136 (.agg #[p,q]),.bool true]) w:=by kernel_rfl
theorem as_hitL {B:Nat} (p:Value) (n:ByteArray) (t:Nat) (w:World) (hx:Cx B w) (ht0:Blk w t 134 #[.string ⟨#[]⟩]) :
  Calls Tryz.prog 83 #[.iface 136 (.agg #[p,.iface 134 (.agg #[.string n])]),.iface 138 (.pointer (some ⟨t,0,none⟩))] w fun ev w'=>ev=.returned (.bool true)∧Fr (Only t) w w'∧Blk w' t 134 #[.string n]:=by
 have hg:=hx.ety
 have hlt:1<w.heap.size:=by have:=hx.nine;have:=hx.le;omega
 have hlt0:0<w.heap.size:=by have:=hx.nine;have:=hx.le;omega
 have htl:t<w.heap.size:=ht0.lt
 have htc:=(ht0.cell 0)
 have htf:=ht0.frozen 0
 have hVO:=@run_callFunc_extern Tryz.prog 135 _ (fun args=>ReflectliteValue.unpack (args.getD 0 (.tuple #[]))) Tryz.func135 (by kernel_rfl) (by kernel_rfl) (by kernel_rfl) (by kernel_rfl)
 have hVT:=@run_callFunc_extern Tryz.prog 136 _ (ReflectliteValue.methodAny (ReflectliteValue.valueError "reflectlite.Value.Type" 0) (fun t _ _ _=>ReflectliteType.toType t)) Tryz.func136 (by kernel_rfl) (by kernel_rfl) (by kernel_rfl) (by kernel_rfl)
 have hVN:=@run_callFunc_extern Tryz.prog 137 _ (ReflectliteValue.method (ReflectliteValue.valueError "reflectlite.Value.IsNil" 0) ReflectliteValue.isNil) Tryz.func137 (by kernel_rfl) (by kernel_rfl) (by kernel_rfl) (by kernel_rfl)
 have hTK:=@run_callFunc_extern Tryz.prog 316 _ (ReflectliteType.abiMethod fun t=>do pure (.int .u8 (← Rtype.kind t))) Tryz.func316 (by kernel_rfl) (by kernel_rfl) (by kernel_rfl) (by kernel_rfl)
 have hTE:=@run_callFunc_extern Tryz.prog 335 _ (ReflectliteType.method ReflectliteType.elem) Tryz.func335 (by kernel_rfl) (by kernel_rfl) (by kernel_rfl) (by kernel_rfl)
 have hTI:=@run_callFunc_extern Tryz.prog 336 _ (ReflectliteType.relation "Implements" ReflectliteType.implements_) Tryz.func336 (by kernel_rfl) (by kernel_rfl) (by kernel_rfl) (by kernel_rfl)
 have hTO:=@run_callFunc_extern Tryz.prog 185 _ ReflectliteType.typeOf Tryz.func185 (by kernel_rfl) (by kernel_rfl) (by kernel_rfl) (by kernel_rfl)
 have hTA:=@run_callFunc_extern Tryz.prog 333 _ (ReflectliteType.relation "AssignableTo" ReflectliteType.assignableTo) Tryz.func333 (by kernel_rfl) (by kernel_rfl) (by kernel_rfl) (by kernel_rfl)
 have hVE:=@run_callFunc_extern Tryz.prog 186 _ (ReflectliteValue.method (ReflectliteValue.valueError "reflectlite.Value.Elem" 0) ReflectliteValue.elem) Tryz.func186 (by kernel_rfl) (by kernel_rfl) (by kernel_rfl) (by kernel_rfl)
 have hVS:=@run_callFunc_extern Tryz.prog 187 _ ReflectliteValue.set Tryz.func187 (by kernel_rfl) (by kernel_rfl) (by kernel_rfl) (by kernel_rfl)
 have f1:=valueOfPL
 have f2:=typePL
 have f3:=mKind
 have f4:=kindPL
 have f5:=kindWL
 have f6:=fun a W=>isNilPL a ⟨t,0,none⟩ W
 have f7:=mElem
 have f8:=mImpl
 have f9:=elemPL
 have f10:=implWL
 have f11:=typeOfTL
 have f12:=typeOfWL
 have f13:=assTL
 have f14:=assWL
 have f15:=mAss
 have f16:=mUnwL
 have f17:=taAsL
 have f18:=taUnL
 have f19:=valueOfWL
 have fr4:Fr NoB (w.alloc (.cells #[.pointer (some ⟨t,0,none⟩)] 138)) ((((w.alloc (.cells #[.pointer (some ⟨t,0,none⟩)] 138)).alloc (.cells #[.pointer (some ⟨9,138,none⟩),.pointer (some ⟨w.heap.size,0,none⟩),.int .u64 150] 200)).alloc (.cells #[.pointer (some ⟨9,138,none⟩),.pointer (some ⟨w.heap.size,0,none⟩),.int .u64 150] 200)).alloc (.cells #[p,.iface 134 (.agg #[.string n])] 136)):=(((Fr.refl _ _).alloc _).alloc _).alloc _
 have f20:=elemVL ⟨w.heap.size,0,none⟩ ⟨t,0,none⟩ _ ((fr4.cell (p:=⟨w.heap.size,0,none⟩) (by simp) (fun e=>e)).trans ((Blk.new w _ _).cell 0))
 have fr5:Fr NoB w ((((((w.alloc (.cells #[.pointer (some ⟨t,0,none⟩)] 138)).alloc (.cells #[.pointer (some ⟨9,138,none⟩),.pointer (some ⟨w.heap.size,0,none⟩),.int .u64 150] 200)).alloc (.cells #[.pointer (some ⟨9,138,none⟩),.pointer (some ⟨w.heap.size,0,none⟩),.int .u64 150] 200)).alloc (.cells #[p,.iface 134 (.agg #[.string n])] 136)).alloc (.cells #[.string n] 134))):=(((((Fr.refl _ _).alloc _).alloc _).alloc _).alloc _).alloc _
 have b5:=fr5.blk ht0 (fun e=>e)
 have f21:=setWL ⟨t,0,none⟩ ⟨w.heap.size+1+1+1+1,0,none⟩ n (.string ⟨#[]⟩) _ (by rw [World.cell?_alloc_at _ _ _ _ (by simp)];rfl) (b5.cell 0) (b5.frozen 0)
 have FR:=Lib.hid fr5
 have B5:=Lib.hid b5
 clear fr4 fr5 b5
 go_enter Tryz.func83,Tryz.ntmps83
 go_wp2
 refine wp_loop_rounds 2 ?_
 rw [rounds_succ]
 go_wp2
 rw [rounds_succ]
 go_wp2
 go_ret
 exact ⟨rfl,(FR.out.noB).only _,by have:=B5.out.set_ 0 (.string n);simpa using this⟩
theorem found_yes {B:Nat} (wd nm:Bs) (w:World) (hx:Cx B w) :
  Calls Tryz.prog 43 #[wrapV wd nm] w fun ev w'=>ev=.returned (.bool true)∧Fr NoB w w':=by
 have hb:=Blk.new w 134 #[.string ⟨#[]⟩]
 have hf:Fr NoB w (w.alloc (.cells #[.string ⟨#[]⟩] 134)):=(Fr.refl _ _).alloc _
 have Hb:=Lib.hid hb
 have Hx:=Lib.hid (hx.fr0 hf)
 clear hb
 go_enter Tryz.func43,Tryz.ntmps43
 go_wp2_with (go_at_call 83;((with_reducible refine (as_hitL _ _ w.heap.size _ Hx.out Hb.out).mono ?_);rintro e w1 ⟨rfl,f1,b1⟩))
 go_ret
 exact ⟨rfl,hf.andThen f1 (fun j hj e=>by subst e;omega)⟩
theorem found_no (w:World):Calls Tryz.prog 43 #[.nilIface] w fun ev w'=>ev=.returned (.bool false)∧Fr NoB w w':=by
 have hA:Hid (∀ (x:Value) (u:World),Calls Tryz.prog 83 #[.nilIface,x] u fun ev w'=>ev=.returned (.bool false)∧w'=u):=Lib.hid (fun x u=>by
  go_enter Tryz.func83,Tryz.ntmps83
  go_wp2
  go_ret
  exact ⟨rfl,rfl⟩)
 go_enter Tryz.func43,Tryz.ntmps43
 go_wp2_with (go_at_call 83;((with_reducible refine (hA.out _ _).mono ?_);rintro e w1 ⟨rfl,rfl⟩))
 go_ret
 exact ⟨rfl,(Fr.refl _ _).alloc _⟩
end Go.Proofs.YtbifjamddbpcjaaGreatDoor
