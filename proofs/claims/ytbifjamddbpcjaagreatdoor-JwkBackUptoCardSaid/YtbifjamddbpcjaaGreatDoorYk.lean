/- Keys. -/
import Derived.Test.YtbifjamddbpcjaaGreatDoorYh
import Derived.Test.YtbifjamddbpcjaaGreatDoorYc
import Derived.Test.YtbifjamddbpcjaaGreatDoorYf
import Derived.Test.YtbifjamddbpcjaaGreatDoorVd
namespace Go.Proofs.YtbifjamddbpcjaaGreatDoor
set_option maxRecDepth 100000
set_option maxHeartbeats 25600000
open Go.RowKit
abbrev zk:Array Value := #[.int .i64 0,.string ⟨#[]⟩,.string ⟨#[]⟩,.string ⟨#[]⟩,.string ⟨#[]⟩,.string ⟨#[]⟩,.string ⟨#[]⟩,.string ⟨#[]⟩]
def kindsL:List Bs:=[nRsa,nEc,nOct]
theorem pl_rsa:plcI (plK nRsa kindsL)=0:=by decide
theorem pl_ec:plcI (plK nEc kindsL)=1:=by decide
theorem pl_oct:plcI (plK nOct kindsL)=2:=by decide
theorem pl_no {s:Bs} (h0:s≠nRsa) (h1:s≠nEc) (h2:s≠nOct):plcI (plK s kindsL) = -1:=by
 simp [kindsL,plK,h0.symm,h1.symm,h2.symm,plcI]
theorem size_key:(Tryz.prog.info? 27).map (·.size)=some 8:=by kernel_rfl
theorem ldK {ops:Array Oper} {rest:List Oper} {o:Oper} {a:Act} {w:World} {Q:Exit→Act→World→Prop} (hgd:o.guard=none) (x:Operand) (ho:o.op=.load 27 x) (g:Nat) (hx:a.eval x=.pointer (some ⟨g,0,none⟩)) {cs:Array Value} (hg:Blk w g 27 cs) (h8:cs.size=8)
  (h:wpList Tryz.prog ops Q rest (a.put o.dst (.agg cs)) w):wpList Tryz.prog ops Q (o::rest) a w:=
 wpList_load_row hgd 27 x ho g hx 27 cs (0,0) _ hg Tryz.underlying27 rfl (by rw [h8];exact size_key) h
theorem size_s2:(Tryz.prog.info? 130).map (·.size)=some 2:=by kernel_rfl
theorem size_ps2:(Tryz.prog.info? 132).map (·.size)=some 2:=by kernel_rfl
def RdIs (o:Option Ky) (e:Ending):Prop:=match o with
 | some k=>e=.returned (.tuple #[.agg (kyC k),.nilIface])
 | none=>∃ (k:Ky) (wd nm:Bs),e=.returned (.tuple #[.agg (kyC k),wrapV wd nm])
theorem key_back {fn:Func} (h:fn.results = #[.cell 2 27,.tmp 3]) (tmps:Array Value) (w:World) (g:Nat) (k:Ky) (n:Value)
  (hp:tmps.getD 2 undef=.pointer (some ⟨g,0,none⟩)) (hq:tmps.getD 3 undef=n) (hb:Blk w g 27 (kyC k)) :
  (results fn tmps).run Tryz.prog w=.ok (.tuple #[.agg (kyC k),n]) w:=by
 have hp':tmps[2]?.getD undef=.pointer (some ⟨g,0,none⟩):=by simpa using hp
 have hq':tmps[3]?.getD undef=n:=by simpa using hq
 simp [results,h,hp',hq',asAddr,run_loadVar_row w g 27 27 _ (0,0) _ hb Tryz.underlying27 rfl size_key]
theorem one_two {a b:Value} (ha:a.oneCell'=true) (hb:b.oneCell'=true):(#[a,b].all (·.oneCell'))=true:=by simp [ha,hb]
theorem one_key (k:Ky):((kyC k).all (·.oneCell'))=true:=by simp [Value.oneCell']
def ToldR (o:Option Bs) (t:Bs) (wv:Value):Prop:=match o with
 | some s=>t=s∧wv=.nilIface
 | none=>t=[]∧∃ wd nm:Bs,wv=wrapV wd nm
theorem textOr_form {o:Option Bs} {e:Ending} (h:TextOr o e):∃ t wv,e=.returned (.tuple #[.string ⟨t.toArray⟩,wv])∧ToldR o t wv:=by
 cases o with
 | some s=>exact ⟨s,_,h,rfl,rfl⟩
 | none=>obtain ⟨wd,nm,h⟩:=h;exact ⟨[],_,h,rfl,wd,nm,rfl⟩
def kset (k:Ky) (o:Nat) (s:Bs):Ky:=if o=3 then { k with n:=s } else if o=4 then { k with e:=s } else if o=5 then { k with x:=s } else if o=6 then { k with y:=s } else { k with sec:=s }
theorem kset_cells (k:Ky) (o:Nat) (s:Bs) (h3:3≤o) (h7:o≤7):(kyC k).setIfInBounds o (sV s)=kyC (kset k o s):=by
 have:o=3∨o=4∨o=5∨o=6∨o=7:=by omega
 rcases this with rfl|rfl|rfl|rfl|rfl<;>rfl
theorem kset_at (k:Ky) (o:Nat) (h3:3≤o) (h7:o≤7):∃ s:Bs,(kyC k)[o]?=some (sV s):=by
 have:o=3∨o=4∨o=5∨o=6∨o=7:=by omega
 rcases this with rfl|rfl|rfl|rfl|rfl<;>exact ⟨_,rfl⟩
theorem szL_in {l:List Jv} {x:Jv} (h:x∈l):szJ x≤szL l:=by
 induction l with
 | nil=>cases h
 | cons y r ih=>
  simp only [szL]
  rcases List.mem_cons.1 h with rfl|h
  ·omega
  ·have:=ih h;omega
theorem got_sz {j x:Jv} {nm:Bs} (h:gotP j nm=some x):szJ x+5≤szJ j:=by
 obtain ⟨k,i,t,l,ks⟩:=j
 unfold gotP at h
 split at h
 ·simp only [Jv.keys,Jv.list] at h
  cases hp:plK nm ks with
  | none=>rw [hp] at h;cases h
  | some q=>
   rw [hp] at h
   have:=szL_in (List.mem_of_getElem? (show l[q]?=some x from h))
   simp only [szJ];omega
 ·cases h
theorem told_sz {j:Jv} {nm s:Bs} (h:toldK j nm=some s):s.length≤szJ j:=by
 rw [toldK] at h
 cases hg:gotP j nm with
 | none=>rw [hg] at h;cases h
 | some x=>
  rw [hg] at h
  have h1:=got_sz hg
  simp only at h
  split at h
  ·cases h
   obtain ⟨k,i,t,l,ks⟩:=x
   simp only [szJ,Jv.text] at h1 ⊢;omega
  ·cases h
def CR (j:Jv) (k0:Ky) (m:Nat) (k1:Ky):Prop:=
 (m=0∧k1=k0)∨(m=1∧∃ a,wordQ j nAlg=some a∧k1={ k0 with alg:=a })∨(m=2∧∃ a i,wordQ j nAlg=some a∧wordQ j nKid=some i∧k1={ k0 with alg:=a,kid:=i })
theorem parts_empty {j:Jv} {k0:Ky} (h:partsK j=some k0):k0.alg=[]∧k0.kid=[]:=by
 unfold partsK at h
 split at h
 ·cases h
 ·split at h
  ·cases h1:bytesK j nN with
   | none=>rw [h1] at h;cases h
   | some n=>
    rw [h1] at h
    cases h2:bytesK j nE with
    | none=>rw [h2] at h;cases h
    | some e=>rw [h2] at h;simp at h;subst h;exact ⟨rfl,rfl⟩
  ·split at h
   ·split at h
    ·cases h1:bytesK j nX with
     | none=>rw [h1] at h;cases h
     | some n=>
      rw [h1] at h
      cases h2:bytesK j nY with
      | none=>rw [h2] at h;cases h
      | some e=>rw [h2] at h;simp at h;subst h;exact ⟨rfl,rfl⟩
    ·cases h
   ·split at h
    ·cases h1:bytesK j nK with
     | none=>rw [h1] at h;cases h
     | some n=>rw [h1] at h;simp at h;subst h;exact ⟨rfl,rfl⟩
    ·cases h
theorem word_none {j:Jv} {nm:Bs} (h:gotP j nm=none):wordQ j nm=some []:=by rw [wordQ,h]
theorem word_bad {j x:Jv} {nm:Bs} (h:gotP j nm=some x) (hx:¬ (x.kind=4∧x.text≠[])):wordQ j nm=none:=by rw [wordQ,h];exact if_neg hx
theorem word_good {j x:Jv} {nm:Bs} (h:gotP j nm=some x) (hx:x.kind=4∧x.text≠[]):wordQ j nm=some x.text:=by rw [wordQ,h];exact if_pos hx
theorem told_got {j x:Jv} {nm:Bs} (h:gotP j nm=some x):toldK j nm=if x.kind=4 then some x.text else none:=by rw [toldK,h]
structure KR (j:Jv) (kt:Int) (n1 n2:Bs) (o1 o2:Nat):Prop where
 a1:3≤o1
 a2:o1≤7
 b1:3≤o2
 b2:o2≤7
 parts:partsK j=(bytesK j n1).bind (fun a=>(bytesK j n2).map (fun b=>kset (kset { kz with kty:=kt } o1 a) o2 b))
theorem read_any {B:Nat} (j:Jv) (v:Value) (w:World) (hx:Cx B w) (hat:RAt (All w) w j v) (hok:JvOk j) (hsz:szJ j≤8388608) :
  Calls Tryz.prog 42 #[v] w fun e w'=>RdIs (readK j) e∧Fr NoB w w':=by
 obtain ⟨v0,v1,v2,v3,v4,rfl,hone⟩:=hat.form
 have HT:Hid (∀ nm u,Fr NoB w u→Calls Tryz.prog 80 #[.agg #[v0,v1,v2,v3,v4],.string ⟨nm.toArray⟩] u fun e w'=>TextOr (toldK j nm) e∧Fr NoB u w'):=Lib.hid (fun nm u f=>ktold_any j _ nm u (hat.all f) hok)
 have HG:Hid (∀ nm u,Fr NoB w u→Calls Tryz.prog 48 #[.agg #[v0,v1,v2,v3,v4],.string ⟨nm.toArray⟩] u fun e w'=>∃ x,e=.returned (.tuple #[x,.bool (gotP j nm).isSome])∧RAt (All u) w' ((gotP j nm).getD Jv.nul) x∧Fr NoB u w'):=Lib.hid (fun nm u f=>kget_any (All u) j _ nm u (fun _ h=>h) (hat.all f) hok)
 have HB:Hid (∀ nm u,Fr NoB w u→Calls Tryz.prog 82 #[.agg #[v0,v1,v2,v3,v4],.string ⟨nm.toArray⟩] u fun e w'=>TextOr (bytesK j nm) e∧Fr NoB u w'):=Lib.hid (fun nm u f=>kbytes_any j _ nm u (hat.all f) hok (fun u' s f' hs=>from64_any s u' (hx.fr0 (f.trans f')) (by have:=told_sz hs;omega)))
 have b0:=(Blk.new w 31 #[v0,v1,v2,v3,v4]).alloc (.cells zk 27)
 have bk:Blk ((w.alloc (.cells #[v0,v1,v2,v3,v4] 31)).alloc (.cells zk 27)) (w.heap.size+1) 27 zk:=by
  have:=Blk.new (w.alloc (.cells #[v0,v1,v2,v3,v4] 31)) 27 zk
  simpa using this
 have f0:Fr NoB w ((w.alloc (.cells #[v0,v1,v2,v3,v4] 31)).alloc (.cells zk 27)):=((Fr.refl _ _).alloc _).alloc _
 obtain ⟨res,hres⟩:∃ r,r=readK j:=⟨_,rfl⟩
 rw [← hres]
 have HRS:=Lib.hid hres
 clear hres hat hok
 go_enter Tryz.func42,Tryz.ntmps42
 go_upto_region 1 with fail
 generalize (w.alloc (.cells #[v0,v1,v2,v3,v4] 31)).alloc (.cells zk 27)=W at *
 have HBX:Hid (∀ u,Fr NoB W u→Blk u w.heap.size 31 #[v0,v1,v2,v3,v4]):=Lib.hid (fun u f=>f.blk b0 id)
 have hWs:w.heap.size+2≤W.heap.size:=by have:=bk.lt;omega
 clear b0
 have HIX:Hid (∀ (t:Bs) (g:Nat) (u:World),g<u.heap.size→Blk u g 86 kindsC→Calls Tryz.prog 81 #[.slice (some ⟨g,0,none⟩) 3 3,.string ⟨t.toArray⟩] u fun e w'=>e=.returned (.int .i64 (plcI (plK t kindsL)))∧u=w'):=Lib.hid (fun t g u hg hb=>kindex_any (All u) kindsL _ t u (Or.inr ⟨g,0,3,rfl,hg,fun i x hx=>by rw [Nat.zero_add,hb.cell,← Array.getElem?_toList];exact hx⟩) (by unfold big;decide))
 have HK3:Hid (∀ u,Calls Tryz.prog 55 #[] u fun e w'=>e=.returned (.agg #[.string ⟨#[82,83,65]⟩,.string ⟨#[69,67]⟩,.string ⟨#[111,99,116]⟩])∧Fr NoB u w'):=Lib.hid (fun u=>kinds_any u)
 have HT1:Hid (Calls Tryz.prog 80 #[.agg #[v0,v1,v2,v3,v4],.string ⟨#[107,116,121]⟩] W fun e w'=>TextOr (toldK j nKty) e∧Fr NoB W w'):=Lib.hid (HT.out nKty W f0)
 have B0:=HBX.out W (Fr.refl _ _)
 go_upto_block 0 with (first|(refine ldJ rfl _ rfl w.heap.size rfl B0 rfl ?_)|(go_at_call 80;((with_reducible refine HT1.out.mono ?_);rintro er w1 ⟨ht,f1⟩;obtain ⟨t,wv,rfl,hr⟩:=textOr_form ht))|(go_at_call 55;((with_reducible refine (HK3.out _).mono ?_);rintro er w2 ⟨rfl,f2⟩;have bk2:=((f1.trans f2).blk bk id).alloc (.cells kindsC 86);have ba:=Blk.new w2 86 kindsC;have z0:=bk2.frozen 0;have cz0:(w2.alloc (.cells kindsC 86)).cell? ⟨w.heap.size+1,0,none⟩=some (.int .i64 0):=(bk2.cell 0).trans rfl))|(go_at_call 81;((with_reducible refine (HIX.out t w2.heap.size _ ba.lt ba).mono ?_);rintro er w3 ⟨rfl,rfl⟩)))
 have hW2:W.heap.size≤w2.heap.size:=(f1.trans f2).size
 have bkK:Blk ((w2.alloc (.cells kindsC 86)).setCell ⟨w.heap.size+1,0,none⟩ (.int .i64 (plcI (plK t kindsL)))) (w.heap.size+1) 27 (kyC { kz with kty:=plcI (plK t kindsL) }):=bk2.set_ 0 (.int .i64 (plcI (plK t kindsL)))
 have F3:Fr NoB w ((w2.alloc (.cells kindsC 86)).setCell ⟨w.heap.size+1,0,none⟩ (.int .i64 (plcI (plK t kindsL)))):=((f0.trans (f1.trans f2)).alloc _).setCell_new (p:=⟨w.heap.size+1,0,none⟩) (by simp) _
 have bx3:Blk ((w2.alloc (.cells kindsC 86)).setCell ⟨w.heap.size+1,0,none⟩ (.int .i64 (plcI (plK t kindsL)))) w.heap.size 31 #[v0,v1,v2,v3,v4]:=((Fr.refl (Only (w.heap.size+1)) _).only (b:=w.heap.size+1) (o:=0) _).blk ((HBX.out _ (f1.trans f2)).alloc _) (fun e=>by have e':w.heap.size=w.heap.size+1:=e;omega)
 have hsz3:((w2.alloc (.cells kindsC 86)).setCell ⟨w.heap.size+1,0,none⟩ (.int .i64 (plcI (plK t kindsL)))).heap.size=w2.heap.size+1:=by simp [World.setCell]
 have hltn:w.heap.size+2≤w2.heap.size+1:=by omega
 clear bk2 ba z0 cz0 B0 bk HBX HK3 HIX HT1 ht f1 f2 hWs hW2 f0
 generalize (w2.alloc (.cells kindsC 86)).setCell ⟨w.heap.size+1,0,none⟩ (.int .i64 (plcI (plK t kindsL)))=W3 at *
 generalize w2.heap.size=gw at *
 rw [← hsz3] at hltn ⊢
 have bn:=(Blk.new W3 130 #[.string ⟨#[]⟩,.string ⟨#[]⟩]).alloc (.cells #[.pointer none,.pointer none] 132)
 have bp:Blk ((W3.alloc (.cells #[.string ⟨#[]⟩,.string ⟨#[]⟩] 130)).alloc (.cells #[.pointer none,.pointer none] 132)) (W3.heap.size+1) 132 #[.pointer none,.pointer none]:=by
  have:=Blk.new (W3.alloc (.cells #[.string ⟨#[]⟩,.string ⟨#[]⟩] 130)) 132 #[.pointer none,.pointer none]
  simpa using this
 have fnp:Fr NoB W3 ((W3.alloc (.cells #[.string ⟨#[]⟩,.string ⟨#[]⟩] 130)).alloc (.cells #[.pointer none,.pointer none] 132)):=((Fr.refl _ _).alloc _).alloc _
 have bkK4:=fnp.blk bkK id
 have bx4:=fnp.blk bx3 id
 have F4:=F3.trans fnp
 clear bkK bx3 F3 fnp hsz3
 generalize (W3.alloc (.cells #[.string ⟨#[]⟩,.string ⟨#[]⟩] 130)).alloc (.cells #[.pointer none,.pointer none] 132)=W4 at *
 generalize W3.heap.size=GN at *
 go_cut [] (fun wx=>∃ kt n1 n2 o1 o2,KR j kt n1 n2 o1 o2∧Blk wx (w.heap.size+1) 27 (kyC { kz with kty:=kt })∧Blk wx GN 130 #[sV n1,sV n2]∧Blk wx (GN+1) 132 #[.pointer (some ⟨w.heap.size+1,o1,none⟩),.pointer (some ⟨w.heap.size+1,o2,none⟩)]∧Blk wx w.heap.size 31 #[v0,v1,v2,v3,v4]∧Fr NoB w wx)
 case first=>
  cases ht:toldK j nKty with
  | none=>
   rw [ht] at hr
   obtain ⟨rfl,wd,nm,rfl⟩:=hr
   have HR2:Hid (res=none):=Lib.hid (by rw [HRS.out];simp [readK,partsK,ht])
   have hpl:plcI (plK [] kindsL) = -1:=by decide
   rw [hpl] at bkK4 ⊢
   have hone:=one_key { kz with kty := -1 }
   have kc0:W4.cell? ⟨w.heap.size+1,0,none⟩=some (.int .i64 (-1)):=(bkK4.cell 0).trans rfl
   go_wp2_with (first|(refine ldK rfl _ rfl (w.heap.size+1) rfl bkK4 rfl ?_)|(refine wpList_store_row rfl 27 _ _ rfl (w.heap.size+1) (kyC { kz with kty := -1 }) rfl rfl 27 _ bkK4 size_key rfl hone ?_))
   exact bodyPost_ret (v:=.tuple #[.agg (kyC { kz with kty := -1 }),wrapV [97,32,107,105,110,100] nKty]) (key_back rfl _ _ (w.heap.size+1) { kz with kty := -1 } _ rfl rfl (bkK4.setRow _)) rfl ⟨(show RdIs res _ by rw [HR2.out];exact ⟨_,[97,32,107,105,110,100],nKty,rfl⟩),F4.setRow (w.heap.size+1) _ (Or.inl (by omega))⟩
  | some s=>
   rw [ht] at hr
   obtain ⟨rfl,rfl⟩:=hr
   by_cases s0:t=nRsa
   ·subst s0
    have hKR:KR j 0 nN nE 3 4:=⟨by omega,by omega,by omega,by omega,by simp [partsK,ht,kset,kz]⟩
    rw [pl_rsa] at bkK4 ⊢
    clear ht
    have kc0:W4.cell? ⟨w.heap.size+1,0,none⟩=some (.int .i64 0):=(bkK4.cell 0).trans rfl
    have bp2:=(Fr.rowO W4 GN #[.string ⟨#[110]⟩,.string ⟨#[101]⟩]).blk bp (fun e=>by have e':GN+1=GN:=e;omega)
    go_wp2_with (first|(refine wpList_store_row rfl 130 _ _ rfl GN #[.string ⟨#[110]⟩,.string ⟨#[101]⟩] rfl rfl 130 _ bn size_s2 rfl (one_two rfl rfl) ?_)|(refine wpList_store_row rfl 132 _ _ rfl (GN+1) #[.pointer (some ⟨w.heap.size+1,3,none⟩),.pointer (some ⟨w.heap.size+1,4,none⟩)] rfl rfl 132 _ bp2 size_ps2 rfl (one_two rfl rfl) ?_))
    go_meet
    have fA:Fr (fun g=>g=GN∨g=GN+1) W4 ((W4.setRow GN #[.string ⟨#[110]⟩,.string ⟨#[101]⟩]).setRow (GN+1) #[.pointer (some ⟨w.heap.size+1,3,none⟩),.pointer (some ⟨w.heap.size+1,4,none⟩)]):=((Fr.refl _ W4).setRow GN _ (Or.inr (Or.inl rfl))).setRow (GN+1) _ (Or.inr (Or.inr rfl))
    exact ⟨0,nN,nE,3,4,hKR,fA.blk bkK4 (fun e=>by omega),(Fr.rowO _ (GN+1) _).blk (bn.setRow _) (fun e=>by have e':GN=GN+1:=e;omega),bp2.setRow _,fA.blk bx4 (fun e=>by omega),(F4.setRow GN _ (Or.inl (by omega))).setRow (GN+1) _ (Or.inl (by omega))⟩
   by_cases s1:t=nEc
   ·subst s1
    rw [pl_ec] at bkK4 ⊢
    have kc0:W4.cell? ⟨w.heap.size+1,0,none⟩=some (.int .i64 1):=(bkK4.cell 0).trans rfl
    have HT2:Hid (Calls Tryz.prog 80 #[.agg #[v0,v1,v2,v3,v4],.string ⟨#[99,114,118]⟩] W4 fun e w'=>TextOr (toldK j nCrv) e∧Fr NoB W4 w'):=Lib.hid (HT.out nCrv W4 F4)
    by_cases hc:toldK j nCrv=some nP256
    ·have hKR:KR j 1 nX nY 5 6:=⟨by omega,by omega,by omega,by omega,by
      have d1:nEc≠nRsa:=by decide
      simp [partsK,ht,hc,d1,kset,kz]⟩
     rw [hc] at HT2
     clear ht hc
     go_upto_region 13 with (first|(refine ldJ rfl _ rfl w.heap.size rfl bx4 rfl ?_)|(go_at_call 80;((with_reducible refine HT2.out.mono ?_);rintro er w5 ⟨rfl,f5⟩)))
     have bk5:=f5.blk bkK4 id
     have bn5:=f5.blk bn id
     have bp5:=f5.blk bp id
     have bx5:=f5.blk bx4 id
     have F5:=F4.trans f5
     have bp2:=(Fr.rowO w5 GN #[.string ⟨#[120]⟩,.string ⟨#[121]⟩]).blk bp5 (fun e=>by have e':GN+1=GN:=e;omega)
     go_wp2_with (first|(refine wpList_store_row rfl 130 _ _ rfl GN #[.string ⟨#[120]⟩,.string ⟨#[121]⟩] rfl rfl 130 _ bn5 size_s2 rfl (one_two rfl rfl) ?_)|(refine wpList_store_row rfl 132 _ _ rfl (GN+1) #[.pointer (some ⟨w.heap.size+1,5,none⟩),.pointer (some ⟨w.heap.size+1,6,none⟩)] rfl rfl 132 _ bp2 size_ps2 rfl (one_two rfl rfl) ?_))
     go_meet
     have fA:Fr (fun g=>g=GN∨g=GN+1) w5 ((w5.setRow GN #[.string ⟨#[120]⟩,.string ⟨#[121]⟩]).setRow (GN+1) #[.pointer (some ⟨w.heap.size+1,5,none⟩),.pointer (some ⟨w.heap.size+1,6,none⟩)]):=((Fr.refl _ w5).setRow GN _ (Or.inr (Or.inl rfl))).setRow (GN+1) _ (Or.inr (Or.inr rfl))
     exact ⟨1,nX,nY,5,6,hKR,fA.blk bk5 (fun e=>by omega),(Fr.rowO _ (GN+1) _).blk (bn5.setRow _) (fun e=>by have e':GN=GN+1:=e;omega),bp2.setRow _,fA.blk bx5 (fun e=>by omega),(F5.setRow GN _ (Or.inl (by omega))).setRow (GN+1) _ (Or.inl (by omega))⟩
    ·have HR2:Hid (res=none):=Lib.hid (by
      have d1:nEc≠nRsa:=by decide
      rw [HRS.out];simp [readK,partsK,ht,d1,hc])
     go_upto_region 13 with (first|(refine ldJ rfl _ rfl w.heap.size rfl bx4 rfl ?_)|(go_at_call 80;((with_reducible refine HT2.out.mono ?_);rintro er w5 ⟨ht5,f5⟩;obtain ⟨t5,wv5,rfl,hr5⟩:=textOr_form ht5)))
     have bk5:=f5.blk bkK4 id
     have F5:=F4.trans f5
     have hone:=one_key { kz with kty:=1 }
     cases hq:toldK j nCrv with
     | none=>
      rw [hq] at hr5
      obtain ⟨rfl,wd,nm,rfl⟩:=hr5
      go_wp2_with (first|(refine ldK rfl _ rfl (w.heap.size+1) rfl bk5 rfl ?_)|(refine wpList_store_row rfl 27 _ _ rfl (w.heap.size+1) (kyC { kz with kty:=1 }) rfl rfl 27 _ bk5 size_key rfl hone ?_))
      exact bodyPost_ret (v:=.tuple #[.agg (kyC { kz with kty:=1 }),wrapV [97,32,99,117,114,118,101] nCrv]) (key_back rfl _ _ (w.heap.size+1) { kz with kty:=1 } _ rfl rfl (bk5.setRow _)) rfl ⟨(show RdIs res _ by rw [HR2.out];exact ⟨_,[97,32,99,117,114,118,101],nCrv,rfl⟩),F5.setRow (w.heap.size+1) _ (Or.inl (by omega))⟩
     | some c=>
      rw [hq] at hr5
      obtain ⟨rfl,rfl⟩:=hr5
      have hne:t5≠nP256:=fun e=>hc (by rw [hq,e])
      have hne2:(t5==nP256)=false:=by simpa using hne
      have hne3:¬ t5=[80,45,50,53,54]:=hne
      have hne4:(t5==[80,45,50,53,54])=false:=hne2
      go_wp2_with (first|(refine ldK rfl _ rfl (w.heap.size+1) rfl bk5 rfl ?_)|(refine wpList_store_row rfl 27 _ _ rfl (w.heap.size+1) (kyC { kz with kty:=1 }) rfl rfl 27 _ bk5 size_key rfl hone ?_))
      exact bodyPost_ret (v:=.tuple #[.agg (kyC { kz with kty:=1 }),wrapV [97,32,99,117,114,118,101] nCrv]) (key_back rfl _ _ (w.heap.size+1) { kz with kty:=1 } _ rfl rfl (bk5.setRow _)) rfl ⟨(show RdIs res _ by rw [HR2.out];exact ⟨_,[97,32,99,117,114,118,101],nCrv,rfl⟩),F5.setRow (w.heap.size+1) _ (Or.inl (by omega))⟩
   by_cases s2:t=nOct
   ·subst s2
    have hKR:KR j 2 nK nK 7 7:=⟨by omega,by omega,by omega,by omega,by
     have d1:nOct≠nRsa:=by decide
     have d2:nOct≠nEc:=by decide
     simp [partsK,ht,d1,d2,kset,kz]
     cases bytesK j nK<;>rfl⟩
    rw [pl_oct] at bkK4 ⊢
    clear ht
    have kc0:W4.cell? ⟨w.heap.size+1,0,none⟩=some (.int .i64 2):=(bkK4.cell 0).trans rfl
    have bp2:=(Fr.rowO W4 GN #[.string ⟨#[107]⟩,.string ⟨#[107]⟩]).blk bp (fun e=>by have e':GN+1=GN:=e;omega)
    go_wp2_with (first|(refine wpList_store_row rfl 130 _ _ rfl GN #[.string ⟨#[107]⟩,.string ⟨#[107]⟩] rfl rfl 130 _ bn size_s2 rfl (one_two rfl rfl) ?_)|(refine wpList_store_row rfl 132 _ _ rfl (GN+1) #[.pointer (some ⟨w.heap.size+1,7,none⟩),.pointer (some ⟨w.heap.size+1,7,none⟩)] rfl rfl 132 _ bp2 size_ps2 rfl (one_two rfl rfl) ?_))
    go_meet
    have fA:Fr (fun g=>g=GN∨g=GN+1) W4 ((W4.setRow GN #[.string ⟨#[107]⟩,.string ⟨#[107]⟩]).setRow (GN+1) #[.pointer (some ⟨w.heap.size+1,7,none⟩),.pointer (some ⟨w.heap.size+1,7,none⟩)]):=((Fr.refl _ W4).setRow GN _ (Or.inr (Or.inl rfl))).setRow (GN+1) _ (Or.inr (Or.inr rfl))
    exact ⟨2,nK,nK,7,7,hKR,fA.blk bkK4 (fun e=>by omega),(Fr.rowO _ (GN+1) _).blk (bn.setRow _) (fun e=>by have e':GN=GN+1:=e;omega),bp2.setRow _,fA.blk bx4 (fun e=>by omega),(F4.setRow GN _ (Or.inl (by omega))).setRow (GN+1) _ (Or.inl (by omega))⟩
   have HR2:Hid (res=none):=Lib.hid (by rw [HRS.out];simp [readK,partsK,ht,s0,s1,s2])
   rw [pl_no s0 s1 s2] at bkK4 ⊢
   have hone:=one_key { kz with kty := -1 }
   have kc0:W4.cell? ⟨w.heap.size+1,0,none⟩=some (.int .i64 (-1)):=(bkK4.cell 0).trans rfl
   go_wp2_with (first|(refine ldK rfl _ rfl (w.heap.size+1) rfl bkK4 rfl ?_)|(refine wpList_store_row rfl 27 _ _ rfl (w.heap.size+1) (kyC { kz with kty := -1 }) rfl rfl 27 _ bkK4 size_key rfl hone ?_))
   exact bodyPost_ret (v:=.tuple #[.agg (kyC { kz with kty := -1 }),wrapV [97,32,107,105,110,100] nKty]) (key_back rfl _ _ (w.heap.size+1) { kz with kty := -1 } _ rfl rfl (bkK4.setRow _)) rfl ⟨(show RdIs res _ by rw [HR2.out];exact ⟨_,[97,32,107,105,110,100],nKty,rfl⟩),F4.setRow (w.heap.size+1) _ (Or.inl (by omega))⟩
 case rest=>
 clear bkK4 bx4 F4 hr bn bp
 obtain ⟨kt,n1,n2,o1,o2,hKR,bk,bn,bp,bx,hf⟩:=hcut
 have ix0:∀ u:World,(Instr.index 130 (.agg #[sV n1,sV n2]) (.int .i64 0)).run Tryz.prog u=.ok (sV n1) u:=fun u=>by kernel_rfl
 have ix1:∀ u:World,(Instr.index 130 (.agg #[sV n1,sV n2]) (.int .i64 1)).run Tryz.prog u=.ok (sV n2) u:=fun u=>by kernel_rfl
 obtain ⟨ha1,ha2,hb1,hb2,HPT⟩:=hKR
 have HPT:=Lib.hid HPT
 go_upto_region 17 with (refine wpList_load_row rfl 130 _ rfl GN rfl 130 _ _ _ bn Tryz.underlying130 rfl size_s2 ?_)
 refine wp_loop_rounds 3 ?_
 rw [rounds_succ]
 obtain ⟨s0,hs0⟩:=kset_at { kz with kty:=kt } o1 ha1 ha2
 have HS0:Hid (∀ u,Fr (Only (w.heap.size+1)) wc u→u.cell? ⟨GN+1,0,none⟩=some (.pointer (some ⟨w.heap.size+1,o1,none⟩))∧u.cell? ⟨w.heap.size,0,none⟩=some v0∧u.cell? ⟨w.heap.size,1,none⟩=some v1∧u.cell? ⟨w.heap.size,2,none⟩=some v2∧u.cell? ⟨w.heap.size,3,none⟩=some v3∧u.cell? ⟨w.heap.size,4,none⟩=some v4):=Lib.hid (fun u f=>by
  have p:=f.blk bp (fun e=>by have e':GN+1=w.heap.size+1:=e;omega)
  have q:=f.blk bx (fun e=>by have e':w.heap.size=w.heap.size+1:=e;omega)
  exact ⟨(p.cell 0).trans rfl,(q.cell 0).trans rfl,(q.cell 1).trans rfl,(q.cell 2).trans rfl,(q.cell 3).trans rfl,(q.cell 4).trans rfl⟩)
 have HB0:Hid (∀ u,Fr NoB w u→Calls Tryz.prog 82 #[.agg #[v0,v1,v2,v3,v4],.string ⟨n1.toArray⟩] u fun e w'=>TextOr (bytesK j n1) e∧Fr NoB u w'):=Lib.hid (fun u f=>HB.out n1 u f)
 have HB1:Hid (∀ u,Fr NoB w u→Calls Tryz.prog 82 #[.agg #[v0,v1,v2,v3,v4],.string ⟨n2.toArray⟩] u fun e w'=>TextOr (bytesK j n2) e∧Fr NoB u w'):=Lib.hid (fun u f=>HB.out n2 u f)
 clear HB
 cases hq1:bytesK j n1 with
 | none=>
  have HR2:Hid (res=none):=Lib.hid (by rw [HRS.out];simp [readK,HPT.out,hq1])
  rw [hq1] at HB0
  go_upto_region 19 with fail
  obtain ⟨c0,c1,c2,c3,c4,c5⟩:=HS0.out wc (Fr.refl _ _)
  go_region_held3 (fun u=>u.cell? ⟨GN+1,0,none⟩=some (.pointer (some ⟨w.heap.size+1,o1,none⟩))∧u.cell? ⟨w.heap.size,0,none⟩=some v0∧u.cell? ⟨w.heap.size,1,none⟩=some v1∧u.cell? ⟨w.heap.size,2,none⟩=some v2∧u.cell? ⟨w.heap.size,3,none⟩=some v3∧u.cell? ⟨w.heap.size,4,none⟩=some v4) (first|(with_reducible exact HS0.out _ t1.noB)|(with_reducible exact HS0.out _ (t1.noB.only _))|(with_reducible exact HS0.out _ (Fr.refl _ _))|(with_reducible exact HS0.out _ (Fr.refl _ _).drew)|go_keep) (first|(go_at_call 82;(with_reducible refine (HB0.out _ hf.drew).mono ?_);rintro er q1 ⟨⟨wd,nm,rfl⟩,t1'⟩;(have t1:Fr NoB wc q1:=(Fr.refl NoB wc).drew.trans t1');have bkv:=t1.blk bk id;have ckv:q1.cell? ⟨w.heap.size+1,o1,none⟩=some (sV s0):=(bkv.cell _).trans hs0;have zkv:=bkv.frozen o1))
  have bkE:=bkv.set_ o1 (.string ⟨#[]⟩)
  have hkE:((kyC { kz with kty:=kt }).setIfInBounds o1 (.string ⟨#[]⟩))=kyC (kset { kz with kty:=kt } o1 []):=kset_cells { kz with kty:=kt } o1 [] (by omega) (by omega)
  rw [hkE] at bkE
  have honeK:=one_key (kset { kz with kty:=kt } o1 [])
  have FE:=hf.trans t1
  go_wp2_with (first|(refine ldK rfl _ rfl (w.heap.size+1) rfl bkE rfl ?_)|(refine wpList_store_row rfl 27 _ _ rfl (w.heap.size+1) (kyC (kset { kz with kty:=kt } o1 [])) rfl rfl 27 _ bkE size_key rfl honeK ?_))
  exact bodyPost_ret (v:=.tuple #[.agg (kyC (kset { kz with kty:=kt } o1 [])),wrapV wd nm]) (key_back rfl _ _ (w.heap.size+1) (kset { kz with kty:=kt } o1 []) _ rfl rfl (bkE.setRow _)) rfl ⟨(show RdIs res _ by rw [HR2.out];exact ⟨_,wd,nm,rfl⟩),(FE.setCell_new (p:=⟨w.heap.size+1,o1,none⟩) (by simp) _).setRow (w.heap.size+1) _ (Or.inl (by omega))⟩
 | some a=>
 rw [hq1] at HB0
 go_upto_region 19 with fail
 obtain ⟨c0,c1,c2,c3,c4,c5⟩:=HS0.out wc (Fr.refl _ _)
 go_region_held3 (fun u=>u.cell? ⟨GN+1,0,none⟩=some (.pointer (some ⟨w.heap.size+1,o1,none⟩))∧u.cell? ⟨w.heap.size,0,none⟩=some v0∧u.cell? ⟨w.heap.size,1,none⟩=some v1∧u.cell? ⟨w.heap.size,2,none⟩=some v2∧u.cell? ⟨w.heap.size,3,none⟩=some v3∧u.cell? ⟨w.heap.size,4,none⟩=some v4) (first|(with_reducible exact HS0.out _ t1.noB)|(with_reducible exact HS0.out _ (t1.noB.only _))|(with_reducible exact HS0.out _ (Fr.refl _ _))|(with_reducible exact HS0.out _ (Fr.refl _ _).drew)|go_keep) (first|(go_at_call 82;(with_reducible refine (HB0.out _ hf.drew).mono ?_);rintro er q1 ⟨rfl,t1'⟩;(have t1:Fr NoB wc q1:=(Fr.refl NoB wc).drew.trans t1');have bkv:=t1.blk bk id;have ckv:q1.cell? ⟨w.heap.size+1,o1,none⟩=some (sV s0):=(bkv.cell _).trans hs0;have zkv:=bkv.frozen o1))
 obtain ⟨k1,hk1⟩:∃ k1,k1=kset { kz with kty:=kt } o1 a:=⟨_,rfl⟩
 have bk1:Blk (q1.setCell ⟨w.heap.size+1,o1,none⟩ (sV a)) (w.heap.size+1) 27 (kyC k1):=by
  have:=bkv.set_ o1 (sV a)
  rwa [kset_cells _ o1 a ha1 ha2,← hk1] at this
 have fO:Fr (Only (w.heap.size+1)) wc (q1.setCell ⟨w.heap.size+1,o1,none⟩ (sV a)):=(t1.noB (S:=Only (w.heap.size+1))).only _
 have bp1:=fO.blk bp (fun e=>by have e':GN+1=w.heap.size+1:=e;omega)
 have bx1:=fO.blk bx (fun e=>by have e':w.heap.size=w.heap.size+1:=e;omega)
 have hf1:Fr NoB w (q1.setCell ⟨w.heap.size+1,o1,none⟩ (sV a)):=(hf.trans t1).setCell_new (p:=⟨w.heap.size+1,o1,none⟩) (by simp) _
 have HPT1:Hid (partsK j=(bytesK j n2).map (fun b=>kset k1 o2 b)):=Lib.hid (by rw [HPT.out,hq1,hk1];rfl)
 clear bkv ckv zkv t1 t1' fO bk bp bx hf HS0 HB0 hs0 hk1 HPT hq1 c0 c1 c2 c3 c4 c5 bn
 generalize q1.setCell ⟨w.heap.size+1,o1,none⟩ (sV a)=U1 at *
 go_wp2_with fail
 rw [rounds_succ]
 obtain ⟨s1,hs1⟩:=kset_at k1 o2 hb1 hb2
 have HS1:Hid (∀ u,Fr (Only (w.heap.size+1)) U1 u→u.cell? ⟨GN+1,1,none⟩=some (.pointer (some ⟨w.heap.size+1,o2,none⟩))∧u.cell? ⟨w.heap.size,0,none⟩=some v0∧u.cell? ⟨w.heap.size,1,none⟩=some v1∧u.cell? ⟨w.heap.size,2,none⟩=some v2∧u.cell? ⟨w.heap.size,3,none⟩=some v3∧u.cell? ⟨w.heap.size,4,none⟩=some v4):=Lib.hid (fun u f=>by
  have p:=f.blk bp1 (fun e=>by have e':GN+1=w.heap.size+1:=e;omega)
  have q:=f.blk bx1 (fun e=>by have e':w.heap.size=w.heap.size+1:=e;omega)
  exact ⟨(p.cell 1).trans rfl,(q.cell 0).trans rfl,(q.cell 1).trans rfl,(q.cell 2).trans rfl,(q.cell 3).trans rfl,(q.cell 4).trans rfl⟩)
 cases hq2:bytesK j n2 with
 | none=>
  have HR2:Hid (res=none):=Lib.hid (by rw [HRS.out];simp [readK,HPT1.out,hq2])
  rw [hq2] at HB1
  go_upto_region 19 with fail
  obtain ⟨c0,c1,c2,c3,c4,c5⟩:=HS1.out U1 (Fr.refl _ _)
  go_region_held3 (fun u=>u.cell? ⟨GN+1,1,none⟩=some (.pointer (some ⟨w.heap.size+1,o2,none⟩))∧u.cell? ⟨w.heap.size,0,none⟩=some v0∧u.cell? ⟨w.heap.size,1,none⟩=some v1∧u.cell? ⟨w.heap.size,2,none⟩=some v2∧u.cell? ⟨w.heap.size,3,none⟩=some v3∧u.cell? ⟨w.heap.size,4,none⟩=some v4) (first|(with_reducible exact HS1.out _ t1.noB)|(with_reducible exact HS1.out _ (t1.noB.only _))|(with_reducible exact HS1.out _ (Fr.refl _ _))|(with_reducible exact HS1.out _ (Fr.refl _ _).drew)|go_keep) (first|(go_at_call 82;(with_reducible refine (HB1.out _ hf1.drew).mono ?_);rintro er q1 ⟨⟨wd,nm,rfl⟩,t1'⟩;(have t1:Fr NoB U1 q1:=(Fr.refl NoB U1).drew.trans t1');have bkv:=t1.blk bk1 id;have ckv:q1.cell? ⟨w.heap.size+1,o2,none⟩=some (sV s1):=(bkv.cell _).trans hs1;have zkv:=bkv.frozen o2))
  have bkE:=bkv.set_ o2 (.string ⟨#[]⟩)
  have hkE:((kyC k1).setIfInBounds o2 (.string ⟨#[]⟩))=kyC (kset k1 o2 []):=kset_cells k1 o2 [] (by omega) (by omega)
  rw [hkE] at bkE
  have honeK:=one_key (kset k1 o2 [])
  have FE:=hf1.trans t1
  go_wp2_with (first|(refine ldK rfl _ rfl (w.heap.size+1) rfl bkE rfl ?_)|(refine wpList_store_row rfl 27 _ _ rfl (w.heap.size+1) (kyC (kset k1 o2 [])) rfl rfl 27 _ bkE size_key rfl honeK ?_))
  exact bodyPost_ret (v:=.tuple #[.agg (kyC (kset k1 o2 [])),wrapV wd nm]) (key_back rfl _ _ (w.heap.size+1) (kset k1 o2 []) _ rfl rfl (bkE.setRow _)) rfl ⟨(show RdIs res _ by rw [HR2.out];exact ⟨_,wd,nm,rfl⟩),(FE.setCell_new (p:=⟨w.heap.size+1,o2,none⟩) (by simp) _).setRow (w.heap.size+1) _ (Or.inl (by omega))⟩
 | some b=>
 rw [hq2] at HB1
 go_upto_region 19 with fail
 obtain ⟨c0,c1,c2,c3,c4,c5⟩:=HS1.out U1 (Fr.refl _ _)
 go_region_held3 (fun u=>u.cell? ⟨GN+1,1,none⟩=some (.pointer (some ⟨w.heap.size+1,o2,none⟩))∧u.cell? ⟨w.heap.size,0,none⟩=some v0∧u.cell? ⟨w.heap.size,1,none⟩=some v1∧u.cell? ⟨w.heap.size,2,none⟩=some v2∧u.cell? ⟨w.heap.size,3,none⟩=some v3∧u.cell? ⟨w.heap.size,4,none⟩=some v4) (first|(with_reducible exact HS1.out _ t1.noB)|(with_reducible exact HS1.out _ (t1.noB.only _))|(with_reducible exact HS1.out _ (Fr.refl _ _))|(with_reducible exact HS1.out _ (Fr.refl _ _).drew)|go_keep) (first|(go_at_call 82;(with_reducible refine (HB1.out _ hf1.drew).mono ?_);rintro er q1 ⟨rfl,t1'⟩;(have t1:Fr NoB U1 q1:=(Fr.refl NoB U1).drew.trans t1');have bkv:=t1.blk bk1 id;have ckv:q1.cell? ⟨w.heap.size+1,o2,none⟩=some (sV s1):=(bkv.cell _).trans hs1;have zkv:=bkv.frozen o2))
 obtain ⟨k0,hk0⟩:∃ k0,k0=kset k1 o2 b:=⟨_,rfl⟩
 have bk2:Blk (q1.setCell ⟨w.heap.size+1,o2,none⟩ (sV b)) (w.heap.size+1) 27 (kyC k0):=by
  have:=bkv.set_ o2 (sV b)
  rwa [kset_cells _ o2 b hb1 hb2,← hk0] at this
 have fO:Fr (Only (w.heap.size+1)) U1 (q1.setCell ⟨w.heap.size+1,o2,none⟩ (sV b)):=(t1.noB (S:=Only (w.heap.size+1))).only _
 have bx2:=fO.blk bx1 (fun e=>by have e':w.heap.size=w.heap.size+1:=e;omega)
 have hf2:Fr NoB w (q1.setCell ⟨w.heap.size+1,o2,none⟩ (sV b)):=(hf1.trans t1).setCell_new (p:=⟨w.heap.size+1,o2,none⟩) (by simp) _
 have HPT2:Hid (partsK j=some k0):=Lib.hid (by rw [HPT1.out,hq2,hk0];rfl)
 have hsz2:w.heap.size+2≤(q1.setCell ⟨w.heap.size+1,o2,none⟩ (sV b)).heap.size:=by have:=bk2.lt;omega
 clear bkv ckv zkv t1 t1' fO bk1 bp1 bx1 hf1 HS1 HB1 hs1 hk0 HPT1 hq2 c0 c1 c2 c3 c4 c5 ix0 ix1
 generalize q1.setCell ⟨w.heap.size+1,o2,none⟩ (sV b)=U2 at *
 go_wp2_with fail
 rw [rounds_succ]
 go_upto_region 24 with fail
 have bA0:=Blk.new U2 9 #[.string ⟨#[97,108,103]⟩,.string ⟨#[107,105,100]⟩]
 have fA0:Fr NoB U2 (U2.alloc (.cells #[.string ⟨#[97,108,103]⟩,.string ⟨#[107,105,100]⟩] 9)):=(Fr.refl _ _).alloc _
 have bk3:=fA0.blk bk2 id
 have bx3:=fA0.blk bx2 id
 have hf3:=hf2.trans fA0
 have HPE:=Lib.hid (parts_empty HPT2.out)
 clear bk2 bx2 hf2 fA0
 generalize U2.alloc (.cells #[.string ⟨#[97,108,103]⟩,.string ⟨#[107,105,100]⟩] 9)=U3 at *
 generalize U2.heap.size=GA at *
 go_loopw [103] (fun v103 wr=>∃ (m:Nat) (k1:Ky),m≤2∧v103=.int .i64 m∧Hid (CR j k0 m k1)∧Blk wr (w.heap.size+1) 27 (kyC k1)∧Blk wr GA 9 #[.string ⟨#[97,108,103]⟩,.string ⟨#[107,105,100]⟩]∧Blk wr w.heap.size 31 #[v0,v1,v2,v3,v4]∧Fr NoB w wr) (fun v103 _=>2 - (intOf v103).toNat)
 case atStart=>exact ⟨0,k0,by omega,rfl,Lib.hid (Or.inl ⟨rfl,rfl⟩),bk3,bA0,bx3,hf3⟩
 case round=>
  clear bk3 bA0 bx3 hf3
  obtain ⟨m,k1,hm,rfl,hcr,bk3,bA,bx3,hfr⟩:=hrel
  have hm3:m=0∨m=1∨m=2:=by omega
  rcases hm3 with rfl|rfl|rfl
  ·obtain rfl:k1=k0:=by rcases hcr.out with ⟨_,h⟩|⟨h,_⟩|⟨h,_⟩;exact h;omega;omega
   have e0:wr.cell? ⟨GA,0,none⟩=some (.string ⟨#[97,108,103]⟩):=(bA.cell 0).trans rfl
   have HG1:Hid (Calls Tryz.prog 48 #[.agg #[v0,v1,v2,v3,v4],.string ⟨#[97,108,103]⟩] wr fun e w'=>∃ x,e=.returned (.tuple #[x,.bool (gotP j nAlg).isSome])∧RAt (All wr) w' ((gotP j nAlg).getD Jv.nul) x∧Fr NoB wr w'):=Lib.hid (HG.out nAlg wr hfr)
   go_upto_region 27 with (first|(refine ldJ rfl _ rfl w.heap.size rfl bx3 rfl ?_)|(go_at_call 48;((with_reducible refine HG1.out.mono ?_);rintro er q1 ⟨x1,rfl,hx1,g1⟩;obtain ⟨y0,y1,y2,y3,y4,rfl,oy⟩:=hx1.form;have ny:=Blk.new q1 31 zj))|(refine wpList_store_row rfl 31 _ _ rfl q1.heap.size #[y0,y1,y2,y3,y4] rfl rfl 31 zj ny size_json rfl oy ?_))
   obtain ⟨py,by'⟩:=put_row q1 y0 y1 y2 y3 y4
   have gy:=g1.trans py
   have bk4:=gy.blk bk3 id
   have bA4:=gy.blk bA id
   have bx4:=gy.blk bx3 id
   have hf4:=hfr.trans gy
   clear ny py by' g1 gy bk3 bA bx3 hfr e0 hx1 HG1 oy
   generalize (q1.alloc (.cells zj 31)).setRow q1.heap.size #[y0,y1,y2,y3,y4]=U4 at *
   cases hg:gotP j nAlg with
   | none=>
    have HCR:Hid (CR j k1 1 k1):=Lib.hid (by have h:CR j k1 1 { k1 with alg:=[] }:=Or.inr (Or.inl ⟨rfl,[],word_none hg,rfl⟩);rwa [show ({ k1 with alg:=([]:Bs) }:Ky)=k1 from by have h:=HPE.out.1;obtain ⟨a,b,c,d,e,f,g,h'⟩:=k1;simp at h;rw [h]] at h)
    simp only [Option.isSome_none]
    go_wp2_with fail
    go_roundw
    case rel=>exact ⟨1,_,by omega,rfl,HCR,bk4,bA4,bx4,hf4⟩
    case measure=>simp [intOf]
   | some x=>
    simp only [Option.isSome_some]
    have HT2:Hid (Calls Tryz.prog 80 #[.agg #[v0,v1,v2,v3,v4],.string ⟨#[97,108,103]⟩] U4 fun e w'=>TextOr (if x.kind=4 then some x.text else none) e∧Fr NoB U4 w'):=Lib.hid (by have:=HT.out nAlg U4 hf4;rwa [told_got hg] at this)
    by_cases hx4:x.kind=4
    ·rw [if_pos hx4] at HT2
     by_cases hxt:x.text=[]
     ·have hw:=word_bad hg (fun h=>h.2 hxt)
      have HR2:Hid (res=none):=Lib.hid (by rw [HRS.out];simp [readK,HPT2.out,hw])
      rw [hxt] at HT2
      have hone5:=one_key k1
      clear hw hx4 hxt hg
      go_upto_region 29 with (first|(refine ldJ rfl _ rfl w.heap.size rfl bx4 rfl ?_)|(go_at_call 80;((with_reducible refine HT2.out.mono ?_);rintro er q2 ⟨rfl,g2⟩)))
      have bk5:=g2.blk bk4 id
      go_wp2_with (first|(refine ldK rfl _ rfl (w.heap.size+1) rfl bk5 rfl ?_)|(refine wpList_store_row rfl 27 _ _ rfl (w.heap.size+1) (kyC k1) rfl rfl 27 _ bk5 size_key rfl hone5 ?_))
      exact bodyPost_ret (v:=.tuple #[.agg (kyC k1),wrapV [97,32,119,111,114,100] nAlg]) (key_back rfl _ _ (w.heap.size+1) k1 _ rfl rfl (bk5.setRow _)) rfl ⟨(show RdIs res _ by rw [HR2.out];exact ⟨_,[97,32,119,111,114,100],nAlg,rfl⟩),(hf4.trans g2).setRow (w.heap.size+1) _ (Or.inl (by omega))⟩
     ·have hw:=word_good hg ⟨hx4,hxt⟩
      have HCR:Hid (CR j k1 1 { k1 with alg:=x.text }):=Lib.hid (Or.inr (Or.inl ⟨rfl,x.text,hw,rfl⟩))
      have hxe:x.text.isEmpty=false:=by cases hq:x.text with|nil=>exact absurd hq hxt|cons a b=>rfl
      have hxe2:(x.text==[])=false:=by simpa using hxt
      clear hw hx4 hg
      generalize x.text=xt at *
      go_upto_region 29 with (first|(refine ldJ rfl _ rfl w.heap.size rfl bx4 rfl ?_)|(go_at_call 80;((with_reducible refine HT2.out.mono ?_);rintro er q2 ⟨rfl,g2⟩)))
      have bk5:=g2.blk bk4 id
      have bA5:=g2.blk bA4 id
      have bx5:=g2.blk bx4 id
      have hf5:=hf4.trans g2
      have ck5:q2.cell? ⟨w.heap.size+1,2,none⟩=some (sV (k1:Ky).alg):=(bk5.cell 2).trans rfl
      have zk5:=bk5.frozen 2
      have bk6:=bk5.set_ 2 (sV xt)
      have fO5:Fr (Only (w.heap.size+1)) q2 (q2.setCell ⟨w.heap.size+1,2,none⟩ (sV xt)):=(Fr.refl _ _).only _
      have bA6:=fO5.blk bA5 (fun e=>by have e':GA=w.heap.size+1:=e;omega)
      have bx6:=fO5.blk bx5 (fun e=>by have e':w.heap.size=w.heap.size+1:=e;omega)
      have hf6:Fr NoB w (q2.setCell ⟨w.heap.size+1,2,none⟩ (sV xt)):=hf5.setCell_new (p:=⟨w.heap.size+1,2,none⟩) (by simp) _
      clear bk5 bA5 bx5 hf5 fO5
      go_wp2_with fail
      go_roundw
      case rel=>exact ⟨1,_,by omega,rfl,HCR,bk6,bA6,bx6,hf6⟩
      case measure=>simp [intOf]
    ·have hw:=word_bad hg (fun h=>hx4 h.1)
     have HR2:Hid (res=none):=Lib.hid (by rw [HRS.out];simp [readK,HPT2.out,hw])
     rw [if_neg hx4] at HT2
     have hone5:=one_key k1
     clear hw hx4 hg
     go_upto_region 29 with (first|(refine ldJ rfl _ rfl w.heap.size rfl bx4 rfl ?_)|(go_at_call 80;((with_reducible refine HT2.out.mono ?_);rintro er q2 ⟨⟨wd,nm',rfl⟩,g2⟩)))
     have bk5:=g2.blk bk4 id
     go_wp2_with (first|(refine ldK rfl _ rfl (w.heap.size+1) rfl bk5 rfl ?_)|(refine wpList_store_row rfl 27 _ _ rfl (w.heap.size+1) (kyC k1) rfl rfl 27 _ bk5 size_key rfl hone5 ?_))
     exact bodyPost_ret (v:=.tuple #[.agg (kyC k1),wrapV [97,32,119,111,114,100] nAlg]) (key_back rfl _ _ (w.heap.size+1) k1 _ rfl rfl (bk5.setRow _)) rfl ⟨(show RdIs res _ by rw [HR2.out];exact ⟨_,[97,32,119,111,114,100],nAlg,rfl⟩),(hf4.trans g2).setRow (w.heap.size+1) _ (Or.inl (by omega))⟩
  ·obtain ⟨wa,hwa,rfl⟩:∃ a,wordQ j nAlg=some a∧k1={ k0 with alg:=a }:=by rcases hcr.out with ⟨h,_⟩|⟨_,h⟩|⟨h,_⟩;omega;exact h;omega
   have e0:wr.cell? ⟨GA,1,none⟩=some (.string ⟨#[107,105,100]⟩):=(bA.cell 1).trans rfl
   have HG1:Hid (Calls Tryz.prog 48 #[.agg #[v0,v1,v2,v3,v4],.string ⟨#[107,105,100]⟩] wr fun e w'=>∃ x,e=.returned (.tuple #[x,.bool (gotP j nKid).isSome])∧RAt (All wr) w' ((gotP j nKid).getD Jv.nul) x∧Fr NoB wr w'):=Lib.hid (HG.out nKid wr hfr)
   go_upto_region 27 with (first|(refine ldJ rfl _ rfl w.heap.size rfl bx3 rfl ?_)|(go_at_call 48;((with_reducible refine HG1.out.mono ?_);rintro er q1 ⟨x1,rfl,hx1,g1⟩;obtain ⟨y0,y1,y2,y3,y4,rfl,oy⟩:=hx1.form;have ny:=Blk.new q1 31 zj))|(refine wpList_store_row rfl 31 _ _ rfl q1.heap.size #[y0,y1,y2,y3,y4] rfl rfl 31 zj ny size_json rfl oy ?_))
   obtain ⟨py,by'⟩:=put_row q1 y0 y1 y2 y3 y4
   have gy:=g1.trans py
   have bk4:=gy.blk bk3 id
   have bA4:=gy.blk bA id
   have bx4:=gy.blk bx3 id
   have hf4:=hfr.trans gy
   clear ny py by' g1 gy bk3 bA bx3 hfr e0 hx1 HG1 oy
   generalize (q1.alloc (.cells zj 31)).setRow q1.heap.size #[y0,y1,y2,y3,y4]=U4 at *
   cases hg:gotP j nKid with
   | none=>
    have HCR:Hid (CR j k0 2 { k0 with alg:=wa }):=Lib.hid (by have h:CR j k0 2 { k0 with alg:=wa,kid:=[] }:=Or.inr (Or.inr ⟨rfl,wa,[],hwa,word_none hg,rfl⟩);rwa [show ({ k0 with alg:=wa,kid:=([]:Bs) }:Ky)={ k0 with alg:=wa } from by have h:=HPE.out.2;obtain ⟨a,b,c,d,e,f,g,h'⟩:=k0;simp at h;rw [h]] at h)
    simp only [Option.isSome_none]
    go_wp2_with fail
    go_roundw
    case rel=>exact ⟨2,_,by omega,rfl,HCR,bk4,bA4,bx4,hf4⟩
    case measure=>simp [intOf]
   | some x=>
    simp only [Option.isSome_some]
    have HT2:Hid (Calls Tryz.prog 80 #[.agg #[v0,v1,v2,v3,v4],.string ⟨#[107,105,100]⟩] U4 fun e w'=>TextOr (if x.kind=4 then some x.text else none) e∧Fr NoB U4 w'):=Lib.hid (by have:=HT.out nKid U4 hf4;rwa [told_got hg] at this)
    by_cases hx4:x.kind=4
    ·rw [if_pos hx4] at HT2
     by_cases hxt:x.text=[]
     ·have hw:=word_bad hg (fun h=>h.2 hxt)
      have HR2:Hid (res=none):=Lib.hid (by rw [HRS.out];simp [readK,HPT2.out,hwa,hw])
      rw [hxt] at HT2
      have hone5:=one_key { k0 with alg:=wa }
      clear hw hx4 hxt hg
      go_upto_region 29 with (first|(refine ldJ rfl _ rfl w.heap.size rfl bx4 rfl ?_)|(go_at_call 80;((with_reducible refine HT2.out.mono ?_);rintro er q2 ⟨rfl,g2⟩)))
      have bk5:=g2.blk bk4 id
      go_wp2_with (first|(refine ldK rfl _ rfl (w.heap.size+1) rfl bk5 rfl ?_)|(refine wpList_store_row rfl 27 _ _ rfl (w.heap.size+1) (kyC { k0 with alg:=wa }) rfl rfl 27 _ bk5 size_key rfl hone5 ?_))
      exact bodyPost_ret (v:=.tuple #[.agg (kyC { k0 with alg:=wa }),wrapV [97,32,119,111,114,100] nKid]) (key_back rfl _ _ (w.heap.size+1) { k0 with alg:=wa } _ rfl rfl (bk5.setRow _)) rfl ⟨(show RdIs res _ by rw [HR2.out];exact ⟨_,[97,32,119,111,114,100],nKid,rfl⟩),(hf4.trans g2).setRow (w.heap.size+1) _ (Or.inl (by omega))⟩
     ·have hw:=word_good hg ⟨hx4,hxt⟩
      have HCR:Hid (CR j k0 2 { k0 with alg:=wa,kid:=x.text }):=Lib.hid (Or.inr (Or.inr ⟨rfl,wa,x.text,hwa,hw,rfl⟩))
      have hxe:x.text.isEmpty=false:=by cases hq:x.text with|nil=>exact absurd hq hxt|cons a b=>rfl
      have hxe2:(x.text==[])=false:=by simpa using hxt
      clear hw hx4 hg
      generalize x.text=xt at *
      go_upto_region 29 with (first|(refine ldJ rfl _ rfl w.heap.size rfl bx4 rfl ?_)|(go_at_call 80;((with_reducible refine HT2.out.mono ?_);rintro er q2 ⟨rfl,g2⟩)))
      have bk5:=g2.blk bk4 id
      have bA5:=g2.blk bA4 id
      have bx5:=g2.blk bx4 id
      have hf5:=hf4.trans g2
      have ck5:q2.cell? ⟨w.heap.size+1,1,none⟩=some (sV ({ k0 with alg:=wa }:Ky).kid):=(bk5.cell 1).trans rfl
      have zk5:=bk5.frozen 1
      have bk6:=bk5.set_ 1 (sV xt)
      have fO5:Fr (Only (w.heap.size+1)) q2 (q2.setCell ⟨w.heap.size+1,1,none⟩ (sV xt)):=(Fr.refl _ _).only _
      have bA6:=fO5.blk bA5 (fun e=>by have e':GA=w.heap.size+1:=e;omega)
      have bx6:=fO5.blk bx5 (fun e=>by have e':w.heap.size=w.heap.size+1:=e;omega)
      have hf6:Fr NoB w (q2.setCell ⟨w.heap.size+1,1,none⟩ (sV xt)):=hf5.setCell_new (p:=⟨w.heap.size+1,1,none⟩) (by simp) _
      clear bk5 bA5 bx5 hf5 fO5
      go_wp2_with fail
      go_roundw
      case rel=>exact ⟨2,_,by omega,rfl,HCR,bk6,bA6,bx6,hf6⟩
      case measure=>simp [intOf]
    ·have hw:=word_bad hg (fun h=>hx4 h.1)
     have HR2:Hid (res=none):=Lib.hid (by rw [HRS.out];simp [readK,HPT2.out,hwa,hw])
     rw [if_neg hx4] at HT2
     have hone5:=one_key { k0 with alg:=wa }
     clear hw hx4 hg
     go_upto_region 29 with (first|(refine ldJ rfl _ rfl w.heap.size rfl bx4 rfl ?_)|(go_at_call 80;((with_reducible refine HT2.out.mono ?_);rintro er q2 ⟨⟨wd,nm',rfl⟩,g2⟩)))
     have bk5:=g2.blk bk4 id
     go_wp2_with (first|(refine ldK rfl _ rfl (w.heap.size+1) rfl bk5 rfl ?_)|(refine wpList_store_row rfl 27 _ _ rfl (w.heap.size+1) (kyC { k0 with alg:=wa }) rfl rfl 27 _ bk5 size_key rfl hone5 ?_))
     exact bodyPost_ret (v:=.tuple #[.agg (kyC { k0 with alg:=wa }),wrapV [97,32,119,111,114,100] nKid]) (key_back rfl _ _ (w.heap.size+1) { k0 with alg:=wa } _ rfl rfl (bk5.setRow _)) rfl ⟨(show RdIs res _ by rw [HR2.out];exact ⟨_,[97,32,119,111,114,100],nKid,rfl⟩),(hf4.trans g2).setRow (w.heap.size+1) _ (Or.inl (by omega))⟩
  ·have HR2:Hid (res=some k1):=Lib.hid (by
    obtain ⟨a,i,h1,h2,h3⟩:∃ a i,wordQ j nAlg=some a∧wordQ j nKid=some i∧k1={ k0 with alg:=a,kid:=i }:=by rcases hcr.out with ⟨h,_⟩|⟨h,_⟩|⟨_,h⟩;omega;omega;exact h
    rw [HRS.out];simp [readK,HPT2.out,h1,h2,h3])
   have hone5:=one_key k1
   go_wp2_with (first|(refine ldK rfl _ rfl (w.heap.size+1) rfl bk3 rfl ?_)|(refine wpList_store_row rfl 27 _ _ rfl (w.heap.size+1) (kyC k1) rfl rfl 27 _ bk3 size_key rfl hone5 ?_))
   exact bodyPost_ret (v:=.tuple #[.agg (kyC k1),.nilIface]) (key_back rfl _ _ (w.heap.size+1) k1 _ rfl rfl (bk3.setRow _)) rfl ⟨(show RdIs res _ by rw [HR2.out];rfl),hfr.setRow (w.heap.size+1) _ (Or.inl (by omega))⟩
theorem nums_le64:∀ (l:List Nat) (t:Bs),unf64 l=some t→t.length≤l.length
 | a::b::c::d::r,t,h=>by
  rw [unf64] at h
  cases hr:unf64 r with
  | none=>rw [hr] at h;cases h
  | some q=>
   rw [hr] at h
   simp only [Option.map_some,Option.some.injEq] at h
   have:=nums_le64 r q hr
   subst h
   simp;omega
 | [],t,h=>by simp [unf64] at h;subst h;simp
 | [_],t,h=>by simp [unf64] at h
 | [a,b],t,h=>by
  rw [unf64] at h
  split at h
  ·cases h;simp
  ·cases h
 | [a,b,c],t,h=>by
  rw [unf64] at h
  split at h
  ·cases h;simp
  ·cases h
theorem from64_le {s t:Bs} (h:from64 s=some t):t.length≤s.length:=by
 rw [from64] at h
 cases hn:nums64 s with
 | none=>rw [hn] at h;cases h
 | some l=>
  rw [hn] at h
  have:=nums_le64 l t h
  have:=nums_len hn
  omega
theorem bytes_sz {j:Jv} {nm s:Bs} (h:bytesK j nm=some s):s.length≤szJ j:=by
 rw [bytesK] at h
 cases ht:toldK j nm with
 | none=>rw [ht] at h;cases h
 | some t=>
  rw [ht] at h
  have:=from64_le (show from64 t=some s from h)
  have:=told_sz ht
  omega
theorem word_sz {j:Jv} {nm s:Bs} (h:wordQ j nm=some s):s.length≤szJ j:=by
 rw [wordQ] at h
 cases hg:gotP j nm with
 | none=>rw [hg] at h;cases h;simp
 | some x=>
  rw [hg] at h
  have h1:=got_sz hg
  simp only at h
  split at h
  ·cases h
   obtain ⟨k,i,t,l,ks⟩:=x
   simp only [szJ,Jv.text] at h1 ⊢;omega
  ·cases h
theorem parts_sm {j:Jv} {k:Ky} (h:partsK j=some k) (hs:szJ j≤8388608):KySm k:=by
 have c:∀ s:Bs,s.length≤szJ j→s.length≤lot:=fun s h=>by unfold lot;omega
 have z:([]:Bs).length≤lot:=by unfold lot;simp
 have io:∀ n:Int,n=0∨n=1∨n=2→IntOk n:=fun n hn=>by unfold IntOk;omega
 unfold partsK at h
 split at h
 ·cases h
 ·split at h
  ·cases h1:bytesK j nN with
   | none=>rw [h1] at h;cases h
   | some n=>
    rw [h1] at h
    cases h2:bytesK j nE with
    | none=>rw [h2] at h;cases h
    | some e=>rw [h2] at h;simp at h;subst h;exact ⟨io 0 (Or.inl rfl),z,z,c _ (bytes_sz h1),c _ (bytes_sz h2),z,z,z⟩
  ·split at h
   ·split at h
    ·cases h1:bytesK j nX with
     | none=>rw [h1] at h;cases h
     | some n=>
      rw [h1] at h
      cases h2:bytesK j nY with
      | none=>rw [h2] at h;cases h
      | some e=>rw [h2] at h;simp at h;subst h;exact ⟨io 1 (Or.inr (Or.inl rfl)),z,z,z,z,c _ (bytes_sz h1),c _ (bytes_sz h2),z⟩
    ·cases h
   ·split at h
    ·cases h1:bytesK j nK with
     | none=>rw [h1] at h;cases h
     | some n=>rw [h1] at h;simp at h;subst h;exact ⟨io 2 (Or.inr (Or.inr rfl)),z,z,z,z,z,z,c _ (bytes_sz h1)⟩
    ·cases h
theorem read_sm {j:Jv} {k:Ky} (h:readK j=some k) (hs:szJ j≤8388608):KySm k:=by
 rw [readK] at h
 cases hp:partsK j with
 | none=>rw [hp] at h;cases h
 | some k0=>
  rw [hp] at h
  cases ha:wordQ j nAlg with
  | none=>rw [ha] at h;cases h
  | some a=>
   rw [ha] at h
   cases hi:wordQ j nKid with
   | none=>rw [hi] at h;cases h
   | some i=>
    rw [hi] at h
    simp only [Option.bind_some,Option.map_some,Option.some.injEq] at h
    have hk:=parts_sm hp hs
    have c:∀ s:Bs,s.length≤szJ j→s.length≤lot:=fun s h=>by unfold lot;omega
    subst h
    exact ⟨hk.t,c _ (word_sz hi),c _ (word_sz ha),hk.n,hk.e,hk.x,hk.y,hk.sec⟩
theorem of_key_any {B:Nat} (j:Jv) (v:Value) (w:World) (hx:Cx B w) (hat:RAt (All w) w j v) (hsz:szJ j≤8388608) (hsm:JSm j) :
  Calls Tryz.prog 16 #[v] w fun e w'=>e=.returned (.tuple #[.agg (kyC ((ofK j).getD kz)),.int .i64 (if (ofK j).isSome then 0 else 100)])∧Fr NoB w w':=by
 obtain ⟨v0,v1,v2,v3,v4,rfl,hone⟩:=hat.form
 have HC:Hid (∀ u,Fr NoB w u→Calls Tryz.prog 41 #[.agg #[v0,v1,v2,v3,v4]] u fun e w'=>e=.returned (.int .i64 (checkP 0 j:Int))∧Fr NoB u w'):=Lib.hid (fun u f=>check_any (All u) j _ u (hx.fr0 f) (fun _ h=>h) (hat.all f) hsm)
 have b0:=(Blk.new w 31 #[v0,v1,v2,v3,v4]).alloc (.cells zk 27)
 have bk:Blk ((w.alloc (.cells #[v0,v1,v2,v3,v4] 31)).alloc (.cells zk 27)) (w.heap.size+1) 27 zk:=by
  have:=Blk.new (w.alloc (.cells #[v0,v1,v2,v3,v4] 31)) 27 zk
  simpa using this
 have f0:Fr NoB w ((w.alloc (.cells #[v0,v1,v2,v3,v4] 31)).alloc (.cells zk 27)):=((Fr.refl _ _).alloc _).alloc _
 have hok:checkP 0 j=0→JvOk j:=fun h=>by
  obtain ⟨k,i,t,l,ks⟩:=j
  exact fun h6=>((form_kind (form_of 0 k i t l ks h).1).2.2 h6).1
 have HR:Hid (checkP 0 j=0→∀ u,Fr NoB w u→Calls Tryz.prog 42 #[.agg #[v0,v1,v2,v3,v4]] u fun e w'=>RdIs (readK j) e∧Fr NoB u w'):=Lib.hid (fun h u f=>read_any j _ u (hx.fr0 f) (hat.all f) (hok h) hsz)
 have hsm2:∀ k,readK j=some k→KySm k:=fun k h=>read_sm h hsz
 obtain ⟨res,hres⟩:∃ r,r=ofK j:=⟨_,rfl⟩
 rw [← hres]
 have HRS:=Lib.hid hres
 have honez:=one_key kz
 have HC1:=Lib.hid (HC.out _ f0)
 clear hres hat hok HC
 go_enter Tryz.func16,Tryz.ntmps16
 go_upto_region 1 with fail
 generalize (w.alloc (.cells #[v0,v1,v2,v3,v4] 31)).alloc (.cells zk 27)=W at *
 by_cases hc:checkP 0 j=0
 ·have HR1:=Lib.hid (HR.out hc)
  rw [hc] at HC1
  go_upto_region 3 with (first|(refine ldJ rfl _ rfl w.heap.size rfl b0 rfl ?_)|(go_at_call 41;((with_reducible refine HC1.out.mono ?_);rintro er w1 ⟨rfl,f1⟩)))
  have b1:=f1.blk b0 id
  have bk1:=f1.blk bk id
  have F1:=f0.trans f1
  have HR2:=Lib.hid (HR1.out w1 F1)
  clear b0 bk f0 f1 HR HR1 HC1
  cases hr:readK j with
  | none=>
   obtain rfl:res=none:=by rw [HRS.out,ofK,if_pos hc,hr]
   rw [hr] at HR2
   clear hr hc HRS
   go_upto_region 4 with (first|(refine ldJ rfl _ rfl w.heap.size rfl b1 rfl ?_)|(go_at_call 42;((with_reducible refine HR2.out.mono ?_);rintro er w2 ⟨⟨kb,wd,nm,rfl⟩,f2⟩)))
   have F2:=F1.trans f2
   have fA:Fr NoB w2 (w2.alloc (.cells (kyC kb) 27)):=(Fr.refl _ _).alloc _
   have bk3:=(f2.trans fA).blk bk1 id
   have F3:=F2.trans fA
   clear bk1 b1 f2 F1 F2 fA
   obtain ⟨kty,kid,alg,n,e,x,y,sec⟩:=kb
   generalize w2.alloc (.cells (kyC ⟨kty,kid,alg,n,e,x,y,sec⟩) 27)=W3 at *
   have HF:=Lib.hid (found_yes wd nm W3 (hx.fr0 F3))
   go_wp2_with (first|(go_at_call 43;((with_reducible refine HF.out.mono ?_);rintro er w4 ⟨rfl,f4⟩;have bk4:=f4.blk bk3 id))|(refine wpList_store_row rfl 27 _ _ rfl (w.heap.size+1) zk rfl rfl 27 _ bk4 size_key rfl honez ?_))
   exact bodyPost_ret (v:=.tuple #[.agg (kyC kz),.int .i64 100]) (key_back rfl _ _ (w.heap.size+1) kz _ rfl rfl (bk4.setRow zk)) rfl ⟨rfl,(F3.trans f4).setRow (w.heap.size+1) _ (Or.inl (by omega))⟩
  | some k=>
   have hres:res=if kyOk k then some k else none:=by rw [HRS.out,ofK,if_pos hc,hr]
   have hks:=hsm2 k hr
   have HK:Hid (∀ u,Calls Tryz.prog 12 #[.agg (kyC k)] u fun e w'=>e=.returned (.int .i64 (if kyOk k then 0 else 100))∧Fr NoB u w'):=Lib.hid (fun u=>kcheck_any k u hks)
   rw [hr] at HR2
   clear hr hc HRS hks hsm2
   go_upto_region 4 with (first|(refine ldJ rfl _ rfl w.heap.size rfl b1 rfl ?_)|(go_at_call 42;((with_reducible refine HR2.out.mono ?_);rintro er w2 ⟨rfl,f2⟩)))
   have F2:=F1.trans f2
   have bA:=Blk.new w2 27 (kyC k)
   have fA:Fr NoB w2 (w2.alloc (.cells (kyC k) 27)):=(Fr.refl _ _).alloc _
   have bk3:=(f2.trans fA).blk bk1 id
   have F3:=F2.trans fA
   have honek:=one_key k
   clear bk1 b1 f2 F1 F2 fA
   obtain ⟨kty,kid,alg,n,e,x,y,sec⟩:=k
   generalize w2.alloc (.cells (kyC ⟨kty,kid,alg,n,e,x,y,sec⟩) 27)=W3 at *
   generalize w2.heap.size=GK at *
   have HF:=Lib.hid (found_no W3)
   have HQ:Hid (∀ u,Fr NoB W3 u→u.cell? ⟨GK,0,none⟩=some (.int .i64 kty)∧u.cell? ⟨GK,1,none⟩=some (.string ⟨kid.toArray⟩)∧u.cell? ⟨GK,2,none⟩=some (.string ⟨alg.toArray⟩)∧u.cell? ⟨GK,3,none⟩=some (.string ⟨n.toArray⟩)∧u.cell? ⟨GK,4,none⟩=some (.string ⟨e.toArray⟩)∧u.cell? ⟨GK,5,none⟩=some (.string ⟨x.toArray⟩)∧u.cell? ⟨GK,6,none⟩=some (.string ⟨y.toArray⟩)∧u.cell? ⟨GK,7,none⟩=some (.string ⟨sec.toArray⟩)):=Lib.hid (fun u f=>by
    have b:=f.blk bA id
    exact ⟨(b.cell 0).trans rfl,(b.cell 1).trans rfl,(b.cell 2).trans rfl,(b.cell 3).trans rfl,(b.cell 4).trans rfl,(b.cell 5).trans rfl,(b.cell 6).trans rfl,(b.cell 7).trans rfl⟩)
   cases hok:kyOk ⟨kty,kid,alg,n,e,x,y,sec⟩ with
   | false=>
    rw [hok] at hres HK
    obtain rfl:res=none:=hres
    clear hok
    go_wp2_with (first|(go_at_call 43;((with_reducible refine HF.out.mono ?_);rintro er w4 ⟨rfl,f4⟩;obtain ⟨c0,c1,c2,c3,c4,c5,c6,c7⟩:=HQ.out w4 f4))|(go_at_call 12;((with_reducible refine (HK.out _).mono ?_);rintro er w5 ⟨rfl,f5⟩;have bk5:=(f4.trans f5).blk bk3 id))|(refine wpList_store_row rfl 27 _ _ rfl (w.heap.size+1) zk rfl rfl 27 _ bk5 size_key rfl honez ?_))
    exact bodyPost_ret (v:=.tuple #[.agg (kyC kz),.int .i64 100]) (key_back rfl _ _ (w.heap.size+1) kz _ rfl rfl (bk5.setRow zk)) rfl ⟨rfl,(F3.trans (f4.trans f5)).setRow (w.heap.size+1) _ (Or.inl (by omega))⟩
   | true=>
    rw [hok] at hres HK
    obtain rfl:res=some ⟨kty,kid,alg,n,e,x,y,sec⟩:=hres
    clear hok
    go_wp2_with (first|(go_at_call 43;((with_reducible refine HF.out.mono ?_);rintro er w4 ⟨rfl,f4⟩;obtain ⟨c0,c1,c2,c3,c4,c5,c6,c7⟩:=HQ.out w4 f4))|(go_at_call 12;((with_reducible refine (HK.out _).mono ?_);rintro er w5 ⟨rfl,f5⟩;have bk5:=(f4.trans f5).blk bk3 id;obtain ⟨d0,d1,d2,d3,d4,d5,d6,d7⟩:=HQ.out w5 (f4.trans f5)))|(refine wpList_store_row rfl 27 _ _ rfl (w.heap.size+1) (kyC ⟨kty,kid,alg,n,e,x,y,sec⟩) rfl rfl 27 _ bk5 size_key rfl honek ?_))
    exact bodyPost_ret (v:=.tuple #[.agg (kyC ⟨kty,kid,alg,n,e,x,y,sec⟩),.int .i64 0]) (key_back rfl _ _ (w.heap.size+1) ⟨kty,kid,alg,n,e,x,y,sec⟩ _ rfl rfl (bk5.setRow _)) rfl ⟨rfl,(F3.trans (f4.trans f5)).setRow (w.heap.size+1) _ (Or.inl (by omega))⟩
 ·obtain rfl:res=none:=by rw [HRS.out,ofK,if_neg hc]
  have hci:¬ (checkP 0 j:Int)=0:=by omega
  generalize checkP 0 j=q at *
  clear HRS HR
  go_wp2_with (first|(refine ldJ rfl _ rfl w.heap.size rfl b0 rfl ?_)|(go_at_call 41;((with_reducible refine HC1.out.mono ?_);rintro er w1 ⟨rfl,f1⟩;have bk1:=f1.blk bk id))|(refine wpList_store_row rfl 27 _ _ rfl (w.heap.size+1) zk rfl rfl 27 _ bk1 size_key rfl honez ?_))
  exact bodyPost_ret (v:=.tuple #[.agg (kyC kz),.int .i64 100]) (key_back rfl _ _ (w.heap.size+1) kz _ rfl rfl (bk1.setRow zk)) rfl ⟨rfl,(f0.trans f1).setRow (w.heap.size+1) _ (Or.inl (by omega))⟩
end Go.Proofs.YtbifjamddbpcjaaGreatDoor
