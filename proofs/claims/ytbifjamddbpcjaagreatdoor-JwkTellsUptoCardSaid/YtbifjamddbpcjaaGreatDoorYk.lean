/- Keys. -/
import Derived.Test.YtbifjamddbpcjaaGreatDoorYh
import Derived.Test.YtbifjamddbpcjaaGreatDoorYc
import Derived.Test.YtbifjamddbpcjaaGreatDoorYf
namespace Go.Proofs.YtbifjamddbpcjaaGreatDoor
set_option maxRecDepth 100000
set_option maxHeartbeats 25600000
open Go.RowKit
abbrev zk:Array Value := #[.int .i64 0,.string ⟨#[]⟩,.string ⟨#[]⟩,.string ⟨#[]⟩,.string ⟨#[]⟩,.string ⟨#[]⟩,.string ⟨#[]⟩,.string ⟨#[]⟩]
def fG:List Bs:=[jw,qB,eH]
theorem QY:jO (oc jw fG)=0:=by decide
theorem Vb:jO (oc qB fG)=1:=by decide
theorem QZ:jO (oc eH fG)=2:=by decide
theorem Vc {s:Bs} (h0:s≠jw) (h1:s≠qB) (h2:s≠eH):jO (oc s fG) = -1:=by
 simp [fG,oc,h0.symm,h1.symm,h2.symm,jO]
theorem bf:(Tryz.prog.info? 27).map (·.size)=some 8:=by kernel_rfl
theorem uo {ops:Array Oper} {rest:List Oper} {o:Oper} {a:Act} {w:World} {Q:Exit->Act->World->Prop} (hgd:o.guard=none) (x:Operand) (ho:o.op=.load 27 x) (g:Nat) (hx:a.eval x=.pointer (some ⟨g,0,none⟩)) {cs:Array Value} (hg:Blk w g 27 cs) (h8:cs.size=8)
  (h:wpList Tryz.prog ops Q rest (a.put o.dst (.agg cs)) w):wpList Tryz.prog ops Q (o::rest) a w:=
 wpList_load_row hgd 27 x ho g hx 27 cs (0,0) _ hg Tryz.underlying27 rfl (by rw [h8];exact bf) h
theorem qO:(Tryz.prog.info? 130).map (·.size)=some 2:=by kernel_rfl
theorem rL:(Tryz.prog.info? 132).map (·.size)=some 2:=by kernel_rfl
def pA (o:Option Ky) (e:Ending):Prop:=match o with
 | some k=>e=.returned (.tuple #[.agg (aR k),.nilIface])
 | none=>∃ (k:Ky) (wd nm:Bs),e=.returned (.tuple #[.agg (aR k),jD wd nm])
theorem cr {fn:Func} (h:fn.results = #[.cell 2 27,.tmp 3]) (tmps:Array Value) (w:World) (g:Nat) (k:Ky) (n:Value)
  (hp:tmps.getD 2 undef=.pointer (some ⟨g,0,none⟩)) (hq:tmps.getD 3 undef=n) (hb:Blk w g 27 (aR k)) :
  (results fn tmps).run Tryz.prog w=.ok (.tuple #[.agg (aR k),n]) w:=by
 have ph:tmps[2]?.getD undef=.pointer (some ⟨g,0,none⟩):=by simpa using hp
 have hq':tmps[3]?.getD undef=n:=by simpa using hq
 simp [results,h,ph,hq',asAddr,run_loadVar_row w g 27 27 _ (0,0) _ hb Tryz.underlying27 rfl bf]
theorem mm {a b:Value} (ha:a.oneCell'=true) (hb:b.oneCell'=true):(#[a,b].all (·.oneCell'))=true:=by simp [ha,hb]
theorem dP (k:Ky):((aR k).all (·.oneCell'))=true:=by simp [Value.oneCell']
def Vd (o:Option Bs) (t:Bs) (wv:Value):Prop:=match o with
 | some s=>t=s/\wv=.nilIface
 | none=>t=[]/\∃ wd nm:Bs,wv=jD wd nm
theorem qf {o:Option Bs} {e:Ending} (h:iF o e):∃ t wv,e=.returned (.tuple #[.string ⟨t.toArray⟩,wv])/\Vd o t wv:=by
 cases o with
 | some s=>exact ⟨s,_,h,rfl,rfl⟩
 | none=>obtain ⟨wd,nm,h⟩:=h;exact ⟨[],_,h,rfl,wd,nm,rfl⟩
def kset (k:Ky) (o:Nat) (s:Bs):Ky:=if o=3 then { k with n:=s } else if o=4 then { k with e:=s } else if o=5 then { k with x:=s } else if o=6 then { k with y:=s } else { k with sec:=s }
theorem kJ (k:Ky) (o:Nat) (s:Bs) (h3:3<=o) (h7:o<=7):(aR k).setIfInBounds o (sV s)=aR (kset k o s):=by
 have:o=3\/o=4\/o=5\/o=6\/o=7:=by omega
 rcases this with rfl|rfl|rfl|rfl|rfl<;>rfl
theorem DO (k:Ky) (o:Nat) (h3:3<=o) (h7:o<=7):∃ s:Bs,(aR k)[o]?=some (sV s):=by
 have:o=3\/o=4\/o=5\/o=6\/o=7:=by omega
 rcases this with rfl|rfl|rfl|rfl|rfl<;>exact ⟨_,rfl⟩
theorem Q0 {l:List Jv} {x:Jv} (h:x∈l):iY x<=uH l:=by
 induction l with
 | nil=>cases h
 | cons y r ih=>
  simp only [uH];rcases List.mem_cons.1 h with rfl|h
  ·omega
  ·have:=ih h;omega
theorem Jf {j x:Jv} {nm:Bs} (h:dy j nm=some x):iY x+5<=iY j:=by
 obtain ⟨k,i,t,l,ks⟩:=j;unfold dy at h;split at h
 ·simp only [Jv.keys,Jv.list] at h;cases hp:oc nm ks with
  | none=>rw [hp] at h;cases h
  | some q=>
   rw [hp] at h;have:=Q0 (List.mem_of_getElem? (show l[q]?=some x from h));simp only [iY];omega
 ·cases h
theorem DP {j:Jv} {nm s:Bs} (h:eS j nm=some s):s.length<=iY j:=by
 rw [eS] at h;cases hg:dy j nm with
 | none=>rw [hg] at h;cases h
 | some x=>
  rw [hg] at h;have h1:=Jf hg;simp only at h;split at h
  ·cases h;obtain ⟨k,i,t,l,ks⟩:=x;simp only [iY,Jv.text] at h1 ⊢;omega
  ·cases h
def CR (j:Jv) (k0:Ky) (m:Nat) (k1:Ky):Prop:=
 (m=0/\k1=k0)\/(m=1/\∃ a,gN j dW=some a/\k1={ k0 with alg:=a })\/(m=2/\∃ a i,gN j dW=some a/\gN j cD=some i/\k1={ k0 with alg:=a,kid:=i })
theorem yZ {j:Jv} {k0:Ky} (h:partsK j=some k0):k0.alg=[]/\k0.kid=[]:=by
 unfold partsK at h;split at h
 ·cases h
 ·split at h
  ·cases h1:bytesK j nN with
   | none=>rw [h1] at h;cases h
   | some n=>
    rw [h1] at h;cases h2:bytesK j nE with
    | none=>rw [h2] at h;cases h
    | some e=>rw [h2] at h;simp at h;subst h;exact ⟨rfl,rfl⟩
  ·split at h
   ·split at h
    ·cases h1:bytesK j nX with
     | none=>rw [h1] at h;cases h
     | some n=>
      rw [h1] at h;cases h2:bytesK j nY with
      | none=>rw [h2] at h;cases h
      | some e=>rw [h2] at h;simp at h;subst h;exact ⟨rfl,rfl⟩
    ·cases h
   ·split at h
    ·cases h1:bytesK j nK with
     | none=>rw [h1] at h;cases h
     | some n=>rw [h1] at h;simp at h;subst h;exact ⟨rfl,rfl⟩
    ·cases h
theorem uT {j:Jv} {nm:Bs} (h:dy j nm=none):gN j nm=some []:=by rw [gN,h]
theorem od {j x:Jv} {nm:Bs} (h:dy j nm=some x) (hx:¬ (x.kind=4/\x.text≠[])):gN j nm=none:=by rw [gN,h];exact if_neg hx
theorem uU {j x:Jv} {nm:Bs} (h:dy j nm=some x) (hx:x.kind=4/\x.text≠[]):gN j nm=some x.text:=by rw [gN,h];exact if_pos hx
theorem y8 {j x:Jv} {nm:Bs} (h:dy j nm=some x):eS j nm=if x.kind=4 then some x.text else none:=by rw [eS,h]
structure KR (j:Jv) (kt:Int) (n1 n2:Bs) (o1 o2:Nat):Prop where
 a1:3<=o1
 a2:o1<=7
 b1:3<=o2
 b2:o2<=7
 parts:partsK j=(bytesK j n1).bind (fun a=>(bytesK j n2).map (fun b=>kset (kset { kz with kty:=kt } o1 a) o2 b))
theorem Jg {B:Nat} (j:Jv) (v:Value) (w:World) (hx:Cx B w) (hat:aG (All w) w j v) (gi:Jh j) (hsz:iY j<=8388608) :
  Calls Tryz.prog 42 #[v] w fun e w'=>pA (gP j) e/\Fr NoB w w':=by
 obtain ⟨v0,v1,v2,v3,v4,rfl,dw⟩:=hat.form;have HT:Hid (∀ nm u,Fr NoB w u->Calls Tryz.prog 80 #[.agg #[v0,v1,v2,v3,v4],.string ⟨nm.toArray⟩] u fun e w'=>iF (eS j nm) e/\Fr NoB u w'):=hd' (fun nm u f=>uV j _ nm u (hat.all f) gi);have HG:Hid (∀ nm u,Fr NoB w u->Calls Tryz.prog 48 #[.agg #[v0,v1,v2,v3,v4],.string ⟨nm.toArray⟩] u fun e w'=>∃ x,e=.returned (.tuple #[x,.bool (dy j nm).isSome])/\aG (All u) w' ((dy j nm).getD Jv.pq) x/\Fr NoB u w'):=hd' (fun nm u f=>rM (All u) j _ nm u (fun _ h=>h) (hat.all f) gi);have HB:Hid (∀ nm u,Fr NoB w u->Calls Tryz.prog 82 #[.agg #[v0,v1,v2,v3,v4],.string ⟨nm.toArray⟩] u fun e w'=>iF (bytesK j nm) e/\Fr NoB u w'):=hd' (fun nm u f=>BV j _ nm u (hat.all f) gi (fun u' s f' hs=>BU s u' (hx.eG (f.trans f')) (by have:=DP hs;omega)));have b0:=(Blk.new w 31 #[v0,v1,v2,v3,v4]).alloc (.cells zk 27);have bk:Blk ((w.alloc (.cells #[v0,v1,v2,v3,v4] 31)).alloc (.cells zk 27)) (w.heap.size+1) 27 zk:=by
  have:=Blk.new (w.alloc (.cells #[v0,v1,v2,v3,v4] 31)) 27 zk;simpa using this
 have f0:Fr NoB w ((w.alloc (.cells #[v0,v1,v2,v3,v4] 31)).alloc (.cells zk 27)):=((Fr.refl _ _).alloc _).alloc _;obtain ⟨res,aH⟩:∃ r,r=gP j:=⟨_,rfl⟩;rw [<- aH];have bV:=hd' aH;clear aH hat gi;go_enter Tryz.func42,Tryz.ntmps42;go_upto_region 1 with fail;generalize (w.alloc (.cells #[v0,v1,v2,v3,v4] 31)).alloc (.cells zk 27)=W at *;have Ui:Hid (∀ u,Fr NoB W u->Blk u w.heap.size 31 #[v0,v1,v2,v3,v4]):=hd' (fun u f=>f.blk b0 id);have Uj:w.heap.size+2<=W.heap.size:=by have:=bk.lt;omega
 clear b0;have HIX:Hid (∀ (t:Bs) (g:Nat) (u:World),g<u.heap.size->Blk u g 86 iG->Calls Tryz.prog 81 #[.slice (some ⟨g,0,none⟩) 3 3,.string ⟨t.toArray⟩] u fun e w'=>e=.returned (.int .i64 (jO (oc t fG)))/\u=w'):=hd' (fun t g u hg hb=>rO (All u) fG _ t u (Or.inr ⟨g,0,3,rfl,hg,fun i x hx=>by rw [Nat.zero_add,hb.cell,<- Array.getElem?_toList];exact hx⟩) (by unfold big;decide));have HK3:Hid (∀ u,Calls Tryz.prog 55 #[] u fun e w'=>e=.returned (.agg #[.string ⟨#[82,83,65]⟩,.string ⟨#[69,67]⟩,.string ⟨#[111,99,116]⟩])/\Fr NoB u w'):=hd' (fun u=>uW u);have Ni:Hid (Calls Tryz.prog 80 #[.agg #[v0,v1,v2,v3,v4],.string ⟨#[107,116,121]⟩] W fun e w'=>iF (eS j bm) e/\Fr NoB W w'):=hd' (HT.out bm W f0);have B0:=Ui.out W (Fr.refl _ _);go_upto_block 0 with (first|(refine gI rfl _ rfl w.heap.size rfl B0 rfl ?_)|(go_at_call 80;((with_reducible refine Ni.out.mono ?_);rintro er w1 ⟨ht,f1⟩;obtain ⟨t,wv,rfl,hr⟩:=qf ht))|(go_at_call 55;((with_reducible refine (HK3.out _).mono ?_);rintro er w2 ⟨rfl,f2⟩;have PV:=((f1.trans f2).blk bk id).alloc (.cells iG 86);have ba:=Blk.new w2 86 iG;have z0:=PV.frozen 0;have ZY:(w2.alloc (.cells iG 86)).cell? ⟨w.heap.size+1,0,none⟩=some (.int .i64 0):=(PV.cell 0).trans rfl))|(go_at_call 81;((with_reducible refine (HIX.out t w2.heap.size _ ba.lt ba).mono ?_);rintro er w3 ⟨rfl,rfl⟩)));have Uk:W.heap.size<=w2.heap.size:=(f1.trans f2).size;have bkK:Blk ((w2.alloc (.cells iG 86)).setCell ⟨w.heap.size+1,0,none⟩ (.int .i64 (jO (oc t fG)))) (w.heap.size+1) 27 (aR { kz with kty:=jO (oc t fG) }):=PV.aS 0 (.int .i64 (jO (oc t fG)));have F3:Fr NoB w ((w2.alloc (.cells iG 86)).setCell ⟨w.heap.size+1,0,none⟩ (.int .i64 (jO (oc t fG)))):=((f0.trans (f1.trans f2)).alloc _).setCell_new (p:=⟨w.heap.size+1,0,none⟩) (by simp) _;have Fs:Blk ((w2.alloc (.cells iG 86)).setCell ⟨w.heap.size+1,0,none⟩ (.int .i64 (jO (oc t fG)))) w.heap.size 31 #[v0,v1,v2,v3,v4]:=((Fr.refl (Only (w.heap.size+1)) _).only (b:=w.heap.size+1) (o:=0) _).blk ((Ui.out _ (f1.trans f2)).alloc _) (fun e=>by have e':w.heap.size=w.heap.size+1:=e;omega);have Ve:((w2.alloc (.cells iG 86)).setCell ⟨w.heap.size+1,0,none⟩ (.int .i64 (jO (oc t fG)))).heap.size=w2.heap.size+1:=by simp [World.setCell]
 have ZZ:w.heap.size+2<=w2.heap.size+1:=by omega
 clear PV ba z0 ZY B0 bk Ui HK3 HIX Ni ht f1 f2 Uj Uk f0;generalize (w2.alloc (.cells iG 86)).setCell ⟨w.heap.size+1,0,none⟩ (.int .i64 (jO (oc t fG)))=W3 at *;generalize w2.heap.size=gw at *;rw [<- Ve] at ZZ ⊢;have bn:=(Blk.new W3 130 #[.string ⟨#[]⟩,.string ⟨#[]⟩]).alloc (.cells #[.pointer none,.pointer none] 132);have bp:Blk ((W3.alloc (.cells #[.string ⟨#[]⟩,.string ⟨#[]⟩] 130)).alloc (.cells #[.pointer none,.pointer none] 132)) (W3.heap.size+1) 132 #[.pointer none,.pointer none]:=by
  have:=Blk.new (W3.alloc (.cells #[.string ⟨#[]⟩,.string ⟨#[]⟩] 130)) 132 #[.pointer none,.pointer none];simpa using this
 have Yz:Fr NoB W3 ((W3.alloc (.cells #[.string ⟨#[]⟩,.string ⟨#[]⟩] 130)).alloc (.cells #[.pointer none,.pointer none] 132)):=((Fr.refl _ _).alloc _).alloc _;have jP:=Yz.blk bkK id;have uX:=Yz.blk Fs id;have F4:=F3.trans Yz;clear bkK Fs F3 Yz Ve;generalize (W3.alloc (.cells #[.string ⟨#[]⟩,.string ⟨#[]⟩] 130)).alloc (.cells #[.pointer none,.pointer none] 132)=W4 at *;generalize W3.heap.size=GN at *;go_cut [] (fun wx=>∃ kt n1 n2 o1 o2,KR j kt n1 n2 o1 o2/\Blk wx (w.heap.size+1) 27 (aR { kz with kty:=kt })/\Blk wx GN 130 #[sV n1,sV n2]/\Blk wx (GN+1) 132 #[.pointer (some ⟨w.heap.size+1,o1,none⟩),.pointer (some ⟨w.heap.size+1,o2,none⟩)]/\Blk wx w.heap.size 31 #[v0,v1,v2,v3,v4]/\Fr NoB w wx)
 case first=>
  cases ht:eS j bm with
  | none=>
   rw [ht] at hr;obtain ⟨rfl,wd,nm,rfl⟩:=hr;have mW:Hid (res=none):=hd' (by rw [bV.out];simp [gP,partsK,ht]);have hpl:jO (oc [] fG) = -1:=by decide
   rw [hpl] at jP ⊢;have dw:=dP { kz with kty := -1 };have YA:W4.cell? ⟨w.heap.size+1,0,none⟩=some (.int .i64 (-1)):=(jP.cell 0).trans rfl;go_wp2_with (first|(refine uo rfl _ rfl (w.heap.size+1) rfl jP rfl ?_)|(refine wpList_store_row rfl 27 _ _ rfl (w.heap.size+1) (aR { kz with kty := -1 }) rfl rfl 27 _ jP bf rfl dw ?_));exact bodyPost_ret (v:=.tuple #[.agg (aR { kz with kty := -1 }),jD [97,32,107,105,110,100] bm]) (cr rfl _ _ (w.heap.size+1) { kz with kty := -1 } _ rfl rfl (jP.setRow _)) rfl ⟨(show pA res _ by rw [mW.out];exact ⟨_,[97,32,107,105,110,100],bm,rfl⟩),F4.setRow (w.heap.size+1) _ (Or.inl (by omega))⟩
  | some s=>
   rw [ht] at hr;obtain ⟨rfl,rfl⟩:=hr;by_cases s0:t=jw
   ·subst s0;have Q5:KR j 0 nN nE 3 4:=⟨by omega,by omega,by omega,by omega,by simp [partsK,ht,kset,kz]⟩;rw [QY] at jP ⊢;clear ht;have YA:W4.cell? ⟨w.heap.size+1,0,none⟩=some (.int .i64 0):=(jP.cell 0).trans rfl;have DQ:=(Fr.eE W4 GN #[.string ⟨#[110]⟩,.string ⟨#[101]⟩]).blk bp (fun e=>by have e':GN+1=GN:=e;omega);go_wp2_with (first|(refine wpList_store_row rfl 130 _ _ rfl GN #[.string ⟨#[110]⟩,.string ⟨#[101]⟩] rfl rfl 130 _ bn qO rfl (mm rfl rfl) ?_)|(refine wpList_store_row rfl 132 _ _ rfl (GN+1) #[.pointer (some ⟨w.heap.size+1,3,none⟩),.pointer (some ⟨w.heap.size+1,4,none⟩)] rfl rfl 132 _ DQ rL rfl (mm rfl rfl) ?_));go_meet;have fA:Fr (fun g=>g=GN\/g=GN+1) W4 ((W4.setRow GN #[.string ⟨#[110]⟩,.string ⟨#[101]⟩]).setRow (GN+1) #[.pointer (some ⟨w.heap.size+1,3,none⟩),.pointer (some ⟨w.heap.size+1,4,none⟩)]):=((Fr.refl _ W4).setRow GN _ (Or.inr (Or.inl rfl))).setRow (GN+1) _ (Or.inr (Or.inr rfl));exact ⟨0,nN,nE,3,4,Q5,fA.blk jP (fun e=>by omega),(Fr.eE _ (GN+1) _).blk (bn.setRow _) (fun e=>by have e':GN=GN+1:=e;omega),DQ.setRow _,fA.blk uX (fun e=>by omega),(F4.setRow GN _ (Or.inl (by omega))).setRow (GN+1) _ (Or.inl (by omega))⟩
   by_cases s1:t=qB
   ·subst s1;rw [Vb] at jP ⊢;have YA:W4.cell? ⟨w.heap.size+1,0,none⟩=some (.int .i64 1):=(jP.cell 0).trans rfl;have mn:Hid (Calls Tryz.prog 80 #[.agg #[v0,v1,v2,v3,v4],.string ⟨#[99,114,118]⟩] W4 fun e w'=>iF (eS j jj) e/\Fr NoB W4 w'):=hd' (HT.out jj W4 F4);by_cases hc:eS j jj=some gQ
    ·have Q5:KR j 1 nX nY 5 6:=⟨by omega,by omega,by omega,by omega,by
      (have d1:qB≠jw:=by decide);simp [partsK,ht,hc,d1,kset,kz]⟩
     rw [hc] at mn;clear ht hc;go_upto_region 13 with (first|(refine gI rfl _ rfl w.heap.size rfl uX rfl ?_)|(go_at_call 80;((with_reducible refine mn.out.mono ?_);rintro er w5 ⟨rfl,f5⟩)));have kA:=f5.blk jP id;have bn5:=f5.blk bn id;have Z0:=f5.blk bp id;have PW:=f5.blk uX id;have F5:=F4.trans f5;have DQ:=(Fr.eE w5 GN #[.string ⟨#[120]⟩,.string ⟨#[121]⟩]).blk Z0 (fun e=>by have e':GN+1=GN:=e;omega);go_wp2_with (first|(refine wpList_store_row rfl 130 _ _ rfl GN #[.string ⟨#[120]⟩,.string ⟨#[121]⟩] rfl rfl 130 _ bn5 qO rfl (mm rfl rfl) ?_)|(refine wpList_store_row rfl 132 _ _ rfl (GN+1) #[.pointer (some ⟨w.heap.size+1,5,none⟩),.pointer (some ⟨w.heap.size+1,6,none⟩)] rfl rfl 132 _ DQ rL rfl (mm rfl rfl) ?_));go_meet;have fA:Fr (fun g=>g=GN\/g=GN+1) w5 ((w5.setRow GN #[.string ⟨#[120]⟩,.string ⟨#[121]⟩]).setRow (GN+1) #[.pointer (some ⟨w.heap.size+1,5,none⟩),.pointer (some ⟨w.heap.size+1,6,none⟩)]):=((Fr.refl _ w5).setRow GN _ (Or.inr (Or.inl rfl))).setRow (GN+1) _ (Or.inr (Or.inr rfl));exact ⟨1,nX,nY,5,6,Q5,fA.blk kA (fun e=>by omega),(Fr.eE _ (GN+1) _).blk (bn5.setRow _) (fun e=>by have e':GN=GN+1:=e;omega),DQ.setRow _,fA.blk PW (fun e=>by omega),(F5.setRow GN _ (Or.inl (by omega))).setRow (GN+1) _ (Or.inl (by omega))⟩
    ·have mW:Hid (res=none):=hd' (by
      (have d1:qB≠jw:=by decide);rw [bV.out];simp [gP,partsK,ht,d1,hc])
     go_upto_region 13 with (first|(refine gI rfl _ rfl w.heap.size rfl uX rfl ?_)|(go_at_call 80;((with_reducible refine mn.out.mono ?_);rintro er w5 ⟨ht5,f5⟩;obtain ⟨t5,wv5,rfl,BW⟩:=qf ht5)));have kA:=f5.blk jP id;have F5:=F4.trans f5;have dw:=dP { kz with kty:=1 };cases hq:eS j jj with
     | none=>
      rw [hq] at BW;obtain ⟨rfl,wd,nm,rfl⟩:=BW;go_wp2_with (first|(refine uo rfl _ rfl (w.heap.size+1) rfl kA rfl ?_)|(refine wpList_store_row rfl 27 _ _ rfl (w.heap.size+1) (aR { kz with kty:=1 }) rfl rfl 27 _ kA bf rfl dw ?_));exact bodyPost_ret (v:=.tuple #[.agg (aR { kz with kty:=1 }),jD [97,32,99,117,114,118,101] jj]) (cr rfl _ _ (w.heap.size+1) { kz with kty:=1 } _ rfl rfl (kA.setRow _)) rfl ⟨(show pA res _ by rw [mW.out];exact ⟨_,[97,32,99,117,114,118,101],jj,rfl⟩),F5.setRow (w.heap.size+1) _ (Or.inl (by omega))⟩
     | some c=>
      rw [hq] at BW;obtain ⟨rfl,rfl⟩:=BW;have hne:t5≠gQ:=fun e=>hc (by rw [hq,e]);(have Q6:(t5==gQ)=false:=by simpa using hne);have aht:¬ t5=[80,45,50,53,54]:=hne;have ahu:(t5==[80,45,50,53,54])=false:=Q6;go_wp2_with (first|(refine uo rfl _ rfl (w.heap.size+1) rfl kA rfl ?_)|(refine wpList_store_row rfl 27 _ _ rfl (w.heap.size+1) (aR { kz with kty:=1 }) rfl rfl 27 _ kA bf rfl dw ?_));exact bodyPost_ret (v:=.tuple #[.agg (aR { kz with kty:=1 }),jD [97,32,99,117,114,118,101] jj]) (cr rfl _ _ (w.heap.size+1) { kz with kty:=1 } _ rfl rfl (kA.setRow _)) rfl ⟨(show pA res _ by rw [mW.out];exact ⟨_,[97,32,99,117,114,118,101],jj,rfl⟩),F5.setRow (w.heap.size+1) _ (Or.inl (by omega))⟩
   by_cases s2:t=eH
   ·subst s2;have Q5:KR j 2 nK nK 7 7:=⟨by omega,by omega,by omega,by omega,by
     (have d1:eH≠jw:=by decide);(have d2:eH≠qB:=by decide);simp [partsK,ht,d1,d2,kset,kz];cases bytesK j nK<;>rfl⟩
    rw [QZ] at jP ⊢;clear ht;have YA:W4.cell? ⟨w.heap.size+1,0,none⟩=some (.int .i64 2):=(jP.cell 0).trans rfl;have DQ:=(Fr.eE W4 GN #[.string ⟨#[107]⟩,.string ⟨#[107]⟩]).blk bp (fun e=>by have e':GN+1=GN:=e;omega);go_wp2_with (first|(refine wpList_store_row rfl 130 _ _ rfl GN #[.string ⟨#[107]⟩,.string ⟨#[107]⟩] rfl rfl 130 _ bn qO rfl (mm rfl rfl) ?_)|(refine wpList_store_row rfl 132 _ _ rfl (GN+1) #[.pointer (some ⟨w.heap.size+1,7,none⟩),.pointer (some ⟨w.heap.size+1,7,none⟩)] rfl rfl 132 _ DQ rL rfl (mm rfl rfl) ?_));go_meet;have fA:Fr (fun g=>g=GN\/g=GN+1) W4 ((W4.setRow GN #[.string ⟨#[107]⟩,.string ⟨#[107]⟩]).setRow (GN+1) #[.pointer (some ⟨w.heap.size+1,7,none⟩),.pointer (some ⟨w.heap.size+1,7,none⟩)]):=((Fr.refl _ W4).setRow GN _ (Or.inr (Or.inl rfl))).setRow (GN+1) _ (Or.inr (Or.inr rfl));exact ⟨2,nK,nK,7,7,Q5,fA.blk jP (fun e=>by omega),(Fr.eE _ (GN+1) _).blk (bn.setRow _) (fun e=>by have e':GN=GN+1:=e;omega),DQ.setRow _,fA.blk uX (fun e=>by omega),(F4.setRow GN _ (Or.inl (by omega))).setRow (GN+1) _ (Or.inl (by omega))⟩
   have mW:Hid (res=none):=hd' (by rw [bV.out];simp [gP,partsK,ht,s0,s1,s2]);rw [Vc s0 s1 s2] at jP ⊢;have dw:=dP { kz with kty := -1 };have YA:W4.cell? ⟨w.heap.size+1,0,none⟩=some (.int .i64 (-1)):=(jP.cell 0).trans rfl;go_wp2_with (first|(refine uo rfl _ rfl (w.heap.size+1) rfl jP rfl ?_)|(refine wpList_store_row rfl 27 _ _ rfl (w.heap.size+1) (aR { kz with kty := -1 }) rfl rfl 27 _ jP bf rfl dw ?_));exact bodyPost_ret (v:=.tuple #[.agg (aR { kz with kty := -1 }),jD [97,32,107,105,110,100] bm]) (cr rfl _ _ (w.heap.size+1) { kz with kty := -1 } _ rfl rfl (jP.setRow _)) rfl ⟨(show pA res _ by rw [mW.out];exact ⟨_,[97,32,107,105,110,100],bm,rfl⟩),F4.setRow (w.heap.size+1) _ (Or.inl (by omega))⟩
 case rest=>
 clear jP uX F4 hr bn bp;obtain ⟨kt,n1,n2,o1,o2,Q5,bk,bn,bp,bx,hf⟩:=hcut;have ix0:∀ u:World,(Instr.index 130 (.agg #[sV n1,sV n2]) (.int .i64 0)).run Tryz.prog u=.ok (sV n1) u:=fun u=>by kernel_rfl
 have ix1:∀ u:World,(Instr.index 130 (.agg #[sV n1,sV n2]) (.int .i64 1)).run Tryz.prog u=.ok (sV n2) u:=fun u=>by kernel_rfl
 obtain ⟨ha1,ha2,lz,iD,Vf⟩:=Q5;have Vf:=hd' Vf;go_upto_region 17 with (refine wpList_load_row rfl 130 _ rfl GN rfl 130 _ _ _ bn Tryz.underlying130 rfl qO ?_);refine wp_loop_rounds 3 ?_;rw [rounds_succ];obtain ⟨s0,hs0⟩:=DO { kz with kty:=kt } o1 ha1 ha2;have Ji:Hid (∀ u,Fr (Only (w.heap.size+1)) wc u->u.cell? ⟨GN+1,0,none⟩=some (.pointer (some ⟨w.heap.size+1,o1,none⟩))/\u.cell? ⟨w.heap.size,0,none⟩=some v0/\u.cell? ⟨w.heap.size,1,none⟩=some v1/\u.cell? ⟨w.heap.size,2,none⟩=some v2/\u.cell? ⟨w.heap.size,3,none⟩=some v3/\u.cell? ⟨w.heap.size,4,none⟩=some v4):=hd' (fun u f=>by
  have p:=f.blk bp (fun e=>by have e':GN+1=w.heap.size+1:=e;omega);have q:=f.blk bx (fun e=>by have e':w.heap.size=w.heap.size+1:=e;omega);exact ⟨(p.cell 0).trans rfl,(q.cell 0).trans rfl,(q.cell 1).trans rfl,(q.cell 2).trans rfl,(q.cell 3).trans rfl,(q.cell 4).trans rfl⟩)
 have Vg:Hid (∀ u,Fr NoB w u->Calls Tryz.prog 82 #[.agg #[v0,v1,v2,v3,v4],.string ⟨n1.toArray⟩] u fun e w'=>iF (bytesK j n1) e/\Fr NoB u w'):=hd' (fun u f=>HB.out n1 u f);have og:Hid (∀ u,Fr NoB w u->Calls Tryz.prog 82 #[.agg #[v0,v1,v2,v3,v4],.string ⟨n2.toArray⟩] u fun e w'=>iF (bytesK j n2) e/\Fr NoB u w'):=hd' (fun u f=>HB.out n2 u f);clear HB;cases Vh:bytesK j n1 with
 | none=>
  have mW:Hid (res=none):=hd' (by rw [bV.out];simp [gP,Vf.out,Vh]);rw [Vh] at Vg;go_upto_region 19 with fail;obtain ⟨c0,c1,c2,c3,c4,c5⟩:=Ji.out wc (Fr.refl _ _);go_region_held3 (fun u=>u.cell? ⟨GN+1,0,none⟩=some (.pointer (some ⟨w.heap.size+1,o1,none⟩))/\u.cell? ⟨w.heap.size,0,none⟩=some v0/\u.cell? ⟨w.heap.size,1,none⟩=some v1/\u.cell? ⟨w.heap.size,2,none⟩=some v2/\u.cell? ⟨w.heap.size,3,none⟩=some v3/\u.cell? ⟨w.heap.size,4,none⟩=some v4) (first|(with_reducible exact Ji.out _ t1.cT)|(with_reducible exact Ji.out _ (t1.cT.only _))|(with_reducible exact Ji.out _ (Fr.refl _ _))|(with_reducible exact Ji.out _ (Fr.refl _ _).drew)|go_keep) (first|(go_at_call 82;(with_reducible refine (Vg.out _ hf.drew).mono ?_);rintro er q1 ⟨⟨wd,nm,rfl⟩,fy⟩;(have t1:Fr NoB wc q1:=(Fr.refl NoB wc).drew.trans fy);have y9:=t1.blk bk id;have Vi:q1.cell? ⟨w.heap.size+1,o1,none⟩=some (sV s0):=(y9.cell _).trans hs0;have Vj:=y9.frozen o1));have Nj:=y9.aS o1 (.string ⟨#[]⟩);have Z1:((aR { kz with kty:=kt }).setIfInBounds o1 (.string ⟨#[]⟩))=aR (kset { kz with kty:=kt } o1 []):=kJ { kz with kty:=kt } o1 [] (by omega) (by omega);rw [Z1] at Nj;have za:=dP (kset { kz with kty:=kt } o1 []);have FE:=hf.trans t1;go_wp2_with (first|(refine uo rfl _ rfl (w.heap.size+1) rfl Nj rfl ?_)|(refine wpList_store_row rfl 27 _ _ rfl (w.heap.size+1) (aR (kset { kz with kty:=kt } o1 [])) rfl rfl 27 _ Nj bf rfl za ?_));exact bodyPost_ret (v:=.tuple #[.agg (aR (kset { kz with kty:=kt } o1 [])),jD wd nm]) (cr rfl _ _ (w.heap.size+1) (kset { kz with kty:=kt } o1 []) _ rfl rfl (Nj.setRow _)) rfl ⟨(show pA res _ by rw [mW.out];exact ⟨_,wd,nm,rfl⟩),(FE.setCell_new (p:=⟨w.heap.size+1,o1,none⟩) (by simp) _).setRow (w.heap.size+1) _ (Or.inl (by omega))⟩
 | some a=>
 rw [Vh] at Vg;go_upto_region 19 with fail;obtain ⟨c0,c1,c2,c3,c4,c5⟩:=Ji.out wc (Fr.refl _ _);go_region_held3 (fun u=>u.cell? ⟨GN+1,0,none⟩=some (.pointer (some ⟨w.heap.size+1,o1,none⟩))/\u.cell? ⟨w.heap.size,0,none⟩=some v0/\u.cell? ⟨w.heap.size,1,none⟩=some v1/\u.cell? ⟨w.heap.size,2,none⟩=some v2/\u.cell? ⟨w.heap.size,3,none⟩=some v3/\u.cell? ⟨w.heap.size,4,none⟩=some v4) (first|(with_reducible exact Ji.out _ t1.cT)|(with_reducible exact Ji.out _ (t1.cT.only _))|(with_reducible exact Ji.out _ (Fr.refl _ _))|(with_reducible exact Ji.out _ (Fr.refl _ _).drew)|go_keep) (first|(go_at_call 82;(with_reducible refine (Vg.out _ hf.drew).mono ?_);rintro er q1 ⟨rfl,fy⟩;(have t1:Fr NoB wc q1:=(Fr.refl NoB wc).drew.trans fy);have y9:=t1.blk bk id;have Vi:q1.cell? ⟨w.heap.size+1,o1,none⟩=some (sV s0):=(y9.cell _).trans hs0;have Vj:=y9.frozen o1));obtain ⟨k1,IB⟩:∃ k1,k1=kset { kz with kty:=kt } o1 a:=⟨_,rfl⟩;have Jj:Blk (q1.setCell ⟨w.heap.size+1,o1,none⟩ (sV a)) (w.heap.size+1) 27 (aR k1):=by
  have:=y9.aS o1 (sV a);rwa [kJ _ o1 a ha1 ha2,<- IB] at this
 have fO:Fr (Only (w.heap.size+1)) wc (q1.setCell ⟨w.heap.size+1,o1,none⟩ (sV a)):=(t1.cT (S:=Only (w.heap.size+1))).only _;have PX:=fO.blk bp (fun e=>by have e':GN+1=w.heap.size+1:=e;omega);have bx1:=fO.blk bx (fun e=>by have e':w.heap.size=w.heap.size+1:=e;omega);have qM:Fr NoB w (q1.setCell ⟨w.heap.size+1,o1,none⟩ (sV a)):=(hf.trans t1).setCell_new (p:=⟨w.heap.size+1,o1,none⟩) (by simp) _;have Q7:Hid (partsK j=(bytesK j n2).map (fun b=>kset k1 o2 b)):=hd' (by rw [Vf.out,Vh,IB];rfl);clear y9 Vi Vj t1 fy fO bk bp bx hf Ji Vg hs0 IB Vf Vh c0 c1 c2 c3 c4 c5 bn;generalize q1.setCell ⟨w.heap.size+1,o1,none⟩ (sV a)=U1 at *;go_wp2_with fail;rw [rounds_succ];obtain ⟨s1,hs1⟩:=DO k1 o2 lz iD;have uq:Hid (∀ u,Fr (Only (w.heap.size+1)) U1 u->u.cell? ⟨GN+1,1,none⟩=some (.pointer (some ⟨w.heap.size+1,o2,none⟩))/\u.cell? ⟨w.heap.size,0,none⟩=some v0/\u.cell? ⟨w.heap.size,1,none⟩=some v1/\u.cell? ⟨w.heap.size,2,none⟩=some v2/\u.cell? ⟨w.heap.size,3,none⟩=some v3/\u.cell? ⟨w.heap.size,4,none⟩=some v4):=hd' (fun u f=>by
  have p:=f.blk PX (fun e=>by have e':GN+1=w.heap.size+1:=e;omega);have q:=f.blk bx1 (fun e=>by have e':w.heap.size=w.heap.size+1:=e;omega);exact ⟨(p.cell 1).trans rfl,(q.cell 0).trans rfl,(q.cell 1).trans rfl,(q.cell 2).trans rfl,(q.cell 3).trans rfl,(q.cell 4).trans rfl⟩)
 cases ub:bytesK j n2 with
 | none=>
  have mW:Hid (res=none):=hd' (by rw [bV.out];simp [gP,Q7.out,ub]);rw [ub] at og;go_upto_region 19 with fail;obtain ⟨c0,c1,c2,c3,c4,c5⟩:=uq.out U1 (Fr.refl _ _);go_region_held3 (fun u=>u.cell? ⟨GN+1,1,none⟩=some (.pointer (some ⟨w.heap.size+1,o2,none⟩))/\u.cell? ⟨w.heap.size,0,none⟩=some v0/\u.cell? ⟨w.heap.size,1,none⟩=some v1/\u.cell? ⟨w.heap.size,2,none⟩=some v2/\u.cell? ⟨w.heap.size,3,none⟩=some v3/\u.cell? ⟨w.heap.size,4,none⟩=some v4) (first|(with_reducible exact uq.out _ t1.cT)|(with_reducible exact uq.out _ (t1.cT.only _))|(with_reducible exact uq.out _ (Fr.refl _ _))|(with_reducible exact uq.out _ (Fr.refl _ _).drew)|go_keep) (first|(go_at_call 82;(with_reducible refine (og.out _ qM.drew).mono ?_);rintro er q1 ⟨⟨wd,nm,rfl⟩,fy⟩;(have t1:Fr NoB U1 q1:=(Fr.refl NoB U1).drew.trans fy);have y9:=t1.blk Jj id;have Vi:q1.cell? ⟨w.heap.size+1,o2,none⟩=some (sV s1):=(y9.cell _).trans hs1;have Vj:=y9.frozen o2));have Nj:=y9.aS o2 (.string ⟨#[]⟩);have Z1:((aR k1).setIfInBounds o2 (.string ⟨#[]⟩))=aR (kset k1 o2 []):=kJ k1 o2 [] (by omega) (by omega);rw [Z1] at Nj;have za:=dP (kset k1 o2 []);have FE:=qM.trans t1;go_wp2_with (first|(refine uo rfl _ rfl (w.heap.size+1) rfl Nj rfl ?_)|(refine wpList_store_row rfl 27 _ _ rfl (w.heap.size+1) (aR (kset k1 o2 [])) rfl rfl 27 _ Nj bf rfl za ?_));exact bodyPost_ret (v:=.tuple #[.agg (aR (kset k1 o2 [])),jD wd nm]) (cr rfl _ _ (w.heap.size+1) (kset k1 o2 []) _ rfl rfl (Nj.setRow _)) rfl ⟨(show pA res _ by rw [mW.out];exact ⟨_,wd,nm,rfl⟩),(FE.setCell_new (p:=⟨w.heap.size+1,o2,none⟩) (by simp) _).setRow (w.heap.size+1) _ (Or.inl (by omega))⟩
 | some b=>
 rw [ub] at og;go_upto_region 19 with fail;obtain ⟨c0,c1,c2,c3,c4,c5⟩:=uq.out U1 (Fr.refl _ _);go_region_held3 (fun u=>u.cell? ⟨GN+1,1,none⟩=some (.pointer (some ⟨w.heap.size+1,o2,none⟩))/\u.cell? ⟨w.heap.size,0,none⟩=some v0/\u.cell? ⟨w.heap.size,1,none⟩=some v1/\u.cell? ⟨w.heap.size,2,none⟩=some v2/\u.cell? ⟨w.heap.size,3,none⟩=some v3/\u.cell? ⟨w.heap.size,4,none⟩=some v4) (first|(with_reducible exact uq.out _ t1.cT)|(with_reducible exact uq.out _ (t1.cT.only _))|(with_reducible exact uq.out _ (Fr.refl _ _))|(with_reducible exact uq.out _ (Fr.refl _ _).drew)|go_keep) (first|(go_at_call 82;(with_reducible refine (og.out _ qM.drew).mono ?_);rintro er q1 ⟨rfl,fy⟩;(have t1:Fr NoB U1 q1:=(Fr.refl NoB U1).drew.trans fy);have y9:=t1.blk Jj id;have Vi:q1.cell? ⟨w.heap.size+1,o2,none⟩=some (sV s1):=(y9.cell _).trans hs1;have Vj:=y9.frozen o2));obtain ⟨k0,mc⟩:∃ k0,k0=kset k1 o2 b:=⟨_,rfl⟩;have PV:Blk (q1.setCell ⟨w.heap.size+1,o2,none⟩ (sV b)) (w.heap.size+1) 27 (aR k0):=by
  have:=y9.aS o2 (sV b);rwa [kJ _ o2 b lz iD,<- mc] at this
 have fO:Fr (Only (w.heap.size+1)) U1 (q1.setCell ⟨w.heap.size+1,o2,none⟩ (sV b)):=(t1.cT (S:=Only (w.heap.size+1))).only _;have Z2:=fO.blk bx1 (fun e=>by have e':w.heap.size=w.heap.size+1:=e;omega);have xj:Fr NoB w (q1.setCell ⟨w.heap.size+1,o2,none⟩ (sV b)):=(qM.trans t1).setCell_new (p:=⟨w.heap.size+1,o2,none⟩) (by simp) _;have Ft:Hid (partsK j=some k0):=hd' (by rw [Q7.out,ub,mc];rfl);have ahx:w.heap.size+2<=(q1.setCell ⟨w.heap.size+1,o2,none⟩ (sV b)).heap.size:=by have:=PV.lt;omega
 clear y9 Vi Vj t1 fy fO Jj PX bx1 qM uq og hs1 mc Q7 ub c0 c1 c2 c3 c4 c5 ix0 ix1;generalize q1.setCell ⟨w.heap.size+1,o2,none⟩ (sV b)=U2 at *;go_wp2_with fail;rw [rounds_succ];go_upto_region 24 with fail;have bA0:=Blk.new U2 9 #[.string ⟨#[97,108,103]⟩,.string ⟨#[107,105,100]⟩];have YB:Fr NoB U2 (U2.alloc (.cells #[.string ⟨#[97,108,103]⟩,.string ⟨#[107,105,100]⟩] 9)):=(Fr.refl _ _).alloc _;have BZ:=YB.blk PV id;have Fs:=YB.blk Z2 id;have hf3:=xj.trans YB;have HPE:=hd' (yZ Ft.out);clear PV Z2 xj YB;generalize U2.alloc (.cells #[.string ⟨#[97,108,103]⟩,.string ⟨#[107,105,100]⟩] 9)=U3 at *;generalize U2.heap.size=GA at *;go_loopw [103] (fun Q8 wr=>∃ (m:Nat) (k1:Ky),m<=2/\Q8=.int .i64 m/\Hid (CR j k0 m k1)/\Blk wr (w.heap.size+1) 27 (aR k1)/\Blk wr GA 9 #[.string ⟨#[97,108,103]⟩,.string ⟨#[107,105,100]⟩]/\Blk wr w.heap.size 31 #[v0,v1,v2,v3,v4]/\Fr NoB w wr) (fun Q8 _=>2 - (intOf Q8).toNat)
 case atStart=>exact ⟨0,k0,by omega,rfl,hd' (Or.inl ⟨rfl,rfl⟩),BZ,bA0,Fs,hf3⟩
 case round=>
  clear BZ bA0 Fs hf3;obtain ⟨m,k1,hm,rfl,Vk,BZ,bA,Fs,gJ⟩:=hrel;have Mz:m=0\/m=1\/m=2:=by omega
  rcases Mz with rfl|rfl|rfl
  ·obtain rfl:k1=k0:=by rcases Vk.out with ⟨_,h⟩|⟨h,_⟩|⟨h,_⟩;exact h;omega;omega
   have e0:wr.cell? ⟨GA,0,none⟩=some (.string ⟨#[97,108,103]⟩):=(bA.cell 0).trans rfl;have qC:Hid (Calls Tryz.prog 48 #[.agg #[v0,v1,v2,v3,v4],.string ⟨#[97,108,103]⟩] wr fun e w'=>∃ x,e=.returned (.tuple #[x,.bool (dy j dW).isSome])/\aG (All wr) w' ((dy j dW).getD Jv.pq) x/\Fr NoB wr w'):=hd' (HG.out dW wr gJ);go_upto_region 27 with (first|(refine gI rfl _ rfl w.heap.size rfl Fs rfl ?_)|(go_at_call 48;((with_reducible refine qC.out.mono ?_);rintro er q1 ⟨x1,rfl,mN,g1⟩;obtain ⟨y0,y1,y2,y3,y4,rfl,oy⟩:=mN.form;have ny:=Blk.new q1 31 zj))|(refine wpList_store_row rfl 31 _ _ rfl q1.heap.size #[y0,y1,y2,y3,y4] rfl rfl 31 zj ny ah rfl oy ?_));obtain ⟨py,Z3⟩:=iM q1 y0 y1 y2 y3 y4;have gy:=g1.trans py;have IC:=gy.blk BZ id;have Vl:=gy.blk bA id;have uX:=gy.blk Fs id;have DI:=gJ.trans gy;clear ny py Z3 g1 gy BZ bA Fs gJ e0 mN qC oy;generalize (q1.alloc (.cells zj 31)).setRow q1.heap.size #[y0,y1,y2,y3,y4]=U4 at *;cases hg:dy j dW with
   | none=>
    have Q9:Hid (CR j k1 1 k1):=hd' (by have h:CR j k1 1 { k1 with alg:=[] }:=Or.inr (Or.inl ⟨rfl,[],uT hg,rfl⟩);rwa [show ({ k1 with alg:=([]:Bs) }:Ky)=k1 from by have h:=HPE.out.1;obtain ⟨a,b,c,d,e,f,g,h'⟩:=k1;simp at h;rw [h]] at h);simp only [Option.isSome_none];go_wp2_with fail;go_roundw
    case rel=>exact ⟨1,_,by omega,rfl,Q9,IC,Vl,uX,DI⟩
    case measure=>simp [intOf]
   | some x=>
    simp only [Option.isSome_some];have mn:Hid (Calls Tryz.prog 80 #[.agg #[v0,v1,v2,v3,v4],.string ⟨#[97,108,103]⟩] U4 fun e w'=>iF (if x.kind=4 then some x.text else none) e/\Fr NoB U4 w'):=hd' (by have:=HT.out dW U4 DI;rwa [y8 hg] at this);by_cases qg:x.kind=4
    ·rw [if_pos qg] at mn;by_cases uY:x.text=[]
     ·have hw:=od hg (fun h=>h.2 uY);have mW:Hid (res=none):=hd' (by rw [bV.out];simp [gP,Ft.out,hw]);rw [uY] at mn;have oh:=dP k1;clear hw qg uY hg;go_upto_region 29 with (first|(refine gI rfl _ rfl w.heap.size rfl uX rfl ?_)|(go_at_call 80;((with_reducible refine mn.out.mono ?_);rintro er q2 ⟨rfl,g2⟩)));have kA:=g2.blk IC id;go_wp2_with (first|(refine uo rfl _ rfl (w.heap.size+1) rfl kA rfl ?_)|(refine wpList_store_row rfl 27 _ _ rfl (w.heap.size+1) (aR k1) rfl rfl 27 _ kA bf rfl oh ?_));exact bodyPost_ret (v:=.tuple #[.agg (aR k1),jD [97,32,119,111,114,100] dW]) (cr rfl _ _ (w.heap.size+1) k1 _ rfl rfl (kA.setRow _)) rfl ⟨(show pA res _ by rw [mW.out];exact ⟨_,[97,32,119,111,114,100],dW,rfl⟩),(DI.trans g2).setRow (w.heap.size+1) _ (Or.inl (by omega))⟩
     ·have hw:=uU hg ⟨qg,uY⟩;have Q9:Hid (CR j k1 1 { k1 with alg:=x.text }):=hd' (Or.inr (Or.inl ⟨rfl,x.text,hw,rfl⟩));have Ra:x.text.isEmpty=false:=by cases hq:x.text with|nil=>exact absurd hq uY|cons a b=>rfl
      (have Z4:(x.text==[])=false:=by simpa using uY);clear hw qg hg;generalize x.text=xt at *;go_upto_region 29 with (first|(refine gI rfl _ rfl w.heap.size rfl uX rfl ?_)|(go_at_call 80;((with_reducible refine mn.out.mono ?_);rintro er q2 ⟨rfl,g2⟩)));have kA:=g2.blk IC id;have Vm:=g2.blk Vl id;have PW:=g2.blk uX id;have Iz:=DI.trans g2;have ck5:q2.cell? ⟨w.heap.size+1,2,none⟩=some (sV (k1:Ky).alg):=(kA.cell 2).trans rfl;have zk5:=kA.frozen 2;have Z5:=kA.aS 2 (sV xt);have Rb:Fr (Only (w.heap.size+1)) q2 (q2.setCell ⟨w.heap.size+1,2,none⟩ (sV xt)):=(Fr.refl _ _).only _;have Z6:=Rb.blk Vm (fun e=>by have e':GA=w.heap.size+1:=e;omega);have YC:=Rb.blk PW (fun e=>by have e':w.heap.size=w.heap.size+1:=e;omega);have Ul:Fr NoB w (q2.setCell ⟨w.heap.size+1,2,none⟩ (sV xt)):=Iz.setCell_new (p:=⟨w.heap.size+1,2,none⟩) (by simp) _;clear kA Vm PW Iz Rb;go_wp2_with fail;go_roundw
      case rel=>exact ⟨1,_,by omega,rfl,Q9,Z5,Z6,YC,Ul⟩
      case measure=>simp [intOf]
    ·have hw:=od hg (fun h=>qg h.1);have mW:Hid (res=none):=hd' (by rw [bV.out];simp [gP,Ft.out,hw]);rw [if_neg qg] at mn;have oh:=dP k1;clear hw qg hg;go_upto_region 29 with (first|(refine gI rfl _ rfl w.heap.size rfl uX rfl ?_)|(go_at_call 80;((with_reducible refine mn.out.mono ?_);rintro er q2 ⟨⟨wd,nm',rfl⟩,g2⟩)));have kA:=g2.blk IC id;go_wp2_with (first|(refine uo rfl _ rfl (w.heap.size+1) rfl kA rfl ?_)|(refine wpList_store_row rfl 27 _ _ rfl (w.heap.size+1) (aR k1) rfl rfl 27 _ kA bf rfl oh ?_));exact bodyPost_ret (v:=.tuple #[.agg (aR k1),jD [97,32,119,111,114,100] dW]) (cr rfl _ _ (w.heap.size+1) k1 _ rfl rfl (kA.setRow _)) rfl ⟨(show pA res _ by rw [mW.out];exact ⟨_,[97,32,119,111,114,100],dW,rfl⟩),(DI.trans g2).setRow (w.heap.size+1) _ (Or.inl (by omega))⟩
  ·obtain ⟨wa,YD,rfl⟩:∃ a,gN j dW=some a/\k1={ k0 with alg:=a }:=by rcases Vk.out with ⟨h,_⟩|⟨_,h⟩|⟨h,_⟩;omega;exact h;omega
   have e0:wr.cell? ⟨GA,1,none⟩=some (.string ⟨#[107,105,100]⟩):=(bA.cell 1).trans rfl;have qC:Hid (Calls Tryz.prog 48 #[.agg #[v0,v1,v2,v3,v4],.string ⟨#[107,105,100]⟩] wr fun e w'=>∃ x,e=.returned (.tuple #[x,.bool (dy j cD).isSome])/\aG (All wr) w' ((dy j cD).getD Jv.pq) x/\Fr NoB wr w'):=hd' (HG.out cD wr gJ);go_upto_region 27 with (first|(refine gI rfl _ rfl w.heap.size rfl Fs rfl ?_)|(go_at_call 48;((with_reducible refine qC.out.mono ?_);rintro er q1 ⟨x1,rfl,mN,g1⟩;obtain ⟨y0,y1,y2,y3,y4,rfl,oy⟩:=mN.form;have ny:=Blk.new q1 31 zj))|(refine wpList_store_row rfl 31 _ _ rfl q1.heap.size #[y0,y1,y2,y3,y4] rfl rfl 31 zj ny ah rfl oy ?_));obtain ⟨py,Z3⟩:=iM q1 y0 y1 y2 y3 y4;have gy:=g1.trans py;have IC:=gy.blk BZ id;have Vl:=gy.blk bA id;have uX:=gy.blk Fs id;have DI:=gJ.trans gy;clear ny py Z3 g1 gy BZ bA Fs gJ e0 mN qC oy;generalize (q1.alloc (.cells zj 31)).setRow q1.heap.size #[y0,y1,y2,y3,y4]=U4 at *;cases hg:dy j cD with
   | none=>
    have Q9:Hid (CR j k0 2 { k0 with alg:=wa }):=hd' (by have h:CR j k0 2 { k0 with alg:=wa,kid:=[] }:=Or.inr (Or.inr ⟨rfl,wa,[],YD,uT hg,rfl⟩);rwa [show ({ k0 with alg:=wa,kid:=([]:Bs) }:Ky)={ k0 with alg:=wa } from by have h:=HPE.out.2;obtain ⟨a,b,c,d,e,f,g,h'⟩:=k0;simp at h;rw [h]] at h);simp only [Option.isSome_none];go_wp2_with fail;go_roundw
    case rel=>exact ⟨2,_,by omega,rfl,Q9,IC,Vl,uX,DI⟩
    case measure=>simp [intOf]
   | some x=>
    simp only [Option.isSome_some];have mn:Hid (Calls Tryz.prog 80 #[.agg #[v0,v1,v2,v3,v4],.string ⟨#[107,105,100]⟩] U4 fun e w'=>iF (if x.kind=4 then some x.text else none) e/\Fr NoB U4 w'):=hd' (by have:=HT.out cD U4 DI;rwa [y8 hg] at this);by_cases qg:x.kind=4
    ·rw [if_pos qg] at mn;by_cases uY:x.text=[]
     ·have hw:=od hg (fun h=>h.2 uY);have mW:Hid (res=none):=hd' (by rw [bV.out];simp [gP,Ft.out,YD,hw]);rw [uY] at mn;have oh:=dP { k0 with alg:=wa };clear hw qg uY hg;go_upto_region 29 with (first|(refine gI rfl _ rfl w.heap.size rfl uX rfl ?_)|(go_at_call 80;((with_reducible refine mn.out.mono ?_);rintro er q2 ⟨rfl,g2⟩)));have kA:=g2.blk IC id;go_wp2_with (first|(refine uo rfl _ rfl (w.heap.size+1) rfl kA rfl ?_)|(refine wpList_store_row rfl 27 _ _ rfl (w.heap.size+1) (aR { k0 with alg:=wa }) rfl rfl 27 _ kA bf rfl oh ?_));exact bodyPost_ret (v:=.tuple #[.agg (aR { k0 with alg:=wa }),jD [97,32,119,111,114,100] cD]) (cr rfl _ _ (w.heap.size+1) { k0 with alg:=wa } _ rfl rfl (kA.setRow _)) rfl ⟨(show pA res _ by rw [mW.out];exact ⟨_,[97,32,119,111,114,100],cD,rfl⟩),(DI.trans g2).setRow (w.heap.size+1) _ (Or.inl (by omega))⟩
     ·have hw:=uU hg ⟨qg,uY⟩;have Q9:Hid (CR j k0 2 { k0 with alg:=wa,kid:=x.text }):=hd' (Or.inr (Or.inr ⟨rfl,wa,x.text,YD,hw,rfl⟩));have Ra:x.text.isEmpty=false:=by cases hq:x.text with|nil=>exact absurd hq uY|cons a b=>rfl
      (have Z4:(x.text==[])=false:=by simpa using uY);clear hw qg hg;generalize x.text=xt at *;go_upto_region 29 with (first|(refine gI rfl _ rfl w.heap.size rfl uX rfl ?_)|(go_at_call 80;((with_reducible refine mn.out.mono ?_);rintro er q2 ⟨rfl,g2⟩)));have kA:=g2.blk IC id;have Vm:=g2.blk Vl id;have PW:=g2.blk uX id;have Iz:=DI.trans g2;have ck5:q2.cell? ⟨w.heap.size+1,1,none⟩=some (sV ({ k0 with alg:=wa }:Ky).kid):=(kA.cell 1).trans rfl;have zk5:=kA.frozen 1;have Z5:=kA.aS 1 (sV xt);have Rb:Fr (Only (w.heap.size+1)) q2 (q2.setCell ⟨w.heap.size+1,1,none⟩ (sV xt)):=(Fr.refl _ _).only _;have Z6:=Rb.blk Vm (fun e=>by have e':GA=w.heap.size+1:=e;omega);have YC:=Rb.blk PW (fun e=>by have e':w.heap.size=w.heap.size+1:=e;omega);have Ul:Fr NoB w (q2.setCell ⟨w.heap.size+1,1,none⟩ (sV xt)):=Iz.setCell_new (p:=⟨w.heap.size+1,1,none⟩) (by simp) _;clear kA Vm PW Iz Rb;go_wp2_with fail;go_roundw
      case rel=>exact ⟨2,_,by omega,rfl,Q9,Z5,Z6,YC,Ul⟩
      case measure=>simp [intOf]
    ·have hw:=od hg (fun h=>qg h.1);have mW:Hid (res=none):=hd' (by rw [bV.out];simp [gP,Ft.out,YD,hw]);rw [if_neg qg] at mn;have oh:=dP { k0 with alg:=wa };clear hw qg hg;go_upto_region 29 with (first|(refine gI rfl _ rfl w.heap.size rfl uX rfl ?_)|(go_at_call 80;((with_reducible refine mn.out.mono ?_);rintro er q2 ⟨⟨wd,nm',rfl⟩,g2⟩)));have kA:=g2.blk IC id;go_wp2_with (first|(refine uo rfl _ rfl (w.heap.size+1) rfl kA rfl ?_)|(refine wpList_store_row rfl 27 _ _ rfl (w.heap.size+1) (aR { k0 with alg:=wa }) rfl rfl 27 _ kA bf rfl oh ?_));exact bodyPost_ret (v:=.tuple #[.agg (aR { k0 with alg:=wa }),jD [97,32,119,111,114,100] cD]) (cr rfl _ _ (w.heap.size+1) { k0 with alg:=wa } _ rfl rfl (kA.setRow _)) rfl ⟨(show pA res _ by rw [mW.out];exact ⟨_,[97,32,119,111,114,100],cD,rfl⟩),(DI.trans g2).setRow (w.heap.size+1) _ (Or.inl (by omega))⟩
  ·have mW:Hid (res=some k1):=hd' (by
    obtain ⟨a,i,h1,h2,h3⟩:∃ a i,gN j dW=some a/\gN j cD=some i/\k1={ k0 with alg:=a,kid:=i }:=by rcases Vk.out with ⟨h,_⟩|⟨h,_⟩|⟨_,h⟩;omega;omega;exact h
    rw [bV.out];simp [gP,Ft.out,h1,h2,h3])
   have oh:=dP k1;go_wp2_with (first|(refine uo rfl _ rfl (w.heap.size+1) rfl BZ rfl ?_)|(refine wpList_store_row rfl 27 _ _ rfl (w.heap.size+1) (aR k1) rfl rfl 27 _ BZ bf rfl oh ?_));exact bodyPost_ret (v:=.tuple #[.agg (aR k1),.nilIface]) (cr rfl _ _ (w.heap.size+1) k1 _ rfl rfl (BZ.setRow _)) rfl ⟨(show pA res _ by rw [mW.out];rfl),gJ.setRow (w.heap.size+1) _ (Or.inl (by omega))⟩
theorem uZ:∀ (l:List Nat) (t:Bs),eR l=some t->t.length<=l.length
 | a::b::c::d::r,t,h=>by
  rw [eR] at h;cases hr:eR r with
  | none=>rw [hr] at h;cases h
  | some q=>
   rw [hr] at h;simp only [Option.map_some,Option.some.injEq] at h;have:=uZ r q hr;subst h;simp;omega
 | [],t,h=>by simp [eR] at h;subst h;simp
 | [_],t,h=>by simp [eR] at h
 | [a,b],t,h=>by
  rw [eR] at h;split at h
  ·cases h;simp
  ·cases h
 | [a,b,c],t,h=>by
  rw [eR] at h;split at h
  ·cases h;simp
  ·cases h
theorem Fu {s t:Bs} (h:fE s=some t):t.length<=s.length:=by
 rw [fE] at h;cases hn:cQ s with
 | none=>rw [hn] at h;cases h
 | some l=>
  rw [hn] at h;have:=uZ l t h;have:=rJ hn;omega
theorem lJ {j:Jv} {nm s:Bs} (h:bytesK j nm=some s):s.length<=iY j:=by
 rw [bytesK] at h;cases ht:eS j nm with
 | none=>rw [ht] at h;cases h
 | some t=>
  rw [ht] at h;have:=Fu (show fE t=some s from h);have:=DP ht;omega
theorem DR {j:Jv} {nm s:Bs} (h:gN j nm=some s):s.length<=iY j:=by
 rw [gN] at h;cases hg:dy j nm with
 | none=>rw [hg] at h;cases h;simp
 | some x=>
  rw [hg] at h;have h1:=Jf hg;simp only at h;split at h
  ·cases h;obtain ⟨k,i,t,l,ks⟩:=x;simp only [iY,Jv.text] at h1 ⊢;omega
  ·cases h
theorem Jk {j:Jv} {k:Ky} (h:partsK j=some k) (hs:iY j<=8388608):KySm k:=by
 have c:∀ s:Bs,s.length<=iY j->s.length<=lot:=fun s h=>by unfold lot;omega
 have z:([]:Bs).length<=lot:=by unfold lot;simp
 have io:∀ n:Int,n=0\/n=1\/n=2->IntOk n:=fun n hn=>by unfold IntOk;omega
 unfold partsK at h;split at h
 ·cases h
 ·split at h
  ·cases h1:bytesK j nN with
   | none=>rw [h1] at h;cases h
   | some n=>
    rw [h1] at h;cases h2:bytesK j nE with
    | none=>rw [h2] at h;cases h
    | some e=>rw [h2] at h;simp at h;subst h;exact ⟨io 0 (Or.inl rfl),z,z,c _ (lJ h1),c _ (lJ h2),z,z,z⟩
  ·split at h
   ·split at h
    ·cases h1:bytesK j nX with
     | none=>rw [h1] at h;cases h
     | some n=>
      rw [h1] at h;cases h2:bytesK j nY with
      | none=>rw [h2] at h;cases h
      | some e=>rw [h2] at h;simp at h;subst h;exact ⟨io 1 (Or.inr (Or.inl rfl)),z,z,z,z,c _ (lJ h1),c _ (lJ h2),z⟩
    ·cases h
   ·split at h
    ·cases h1:bytesK j nK with
     | none=>rw [h1] at h;cases h
     | some n=>rw [h1] at h;simp at h;subst h;exact ⟨io 2 (Or.inr (Or.inr rfl)),z,z,z,z,z,z,c _ (lJ h1)⟩
    ·cases h
theorem Nk {j:Jv} {k:Ky} (h:gP j=some k) (hs:iY j<=8388608):KySm k:=by
 rw [gP] at h;cases hp:partsK j with
 | none=>rw [hp] at h;cases h
 | some k0=>
  rw [hp] at h;cases ha:gN j dW with
  | none=>rw [ha] at h;cases h
  | some a=>
   rw [ha] at h;cases hi:gN j cD with
   | none=>rw [hi] at h;cases h
   | some i=>
    rw [hi] at h;simp only [Option.bind_some,Option.map_some,Option.some.injEq] at h;have hk:=Jk hp hs;(have c:∀ s:Bs,s.length<=iY j->s.length<=lot:=fun s h=>by unfold lot;omega);subst h;exact ⟨hk.t,c _ (DR hi),c _ (DR ha),hk.n,hk.e,hk.x,hk.y,hk.sec⟩
theorem nt {B:Nat} (j:Jv) (v:Value) (w:World) (hx:Cx B w) (hat:aG (All w) w j v) (hsz:iY j<=8388608) (eK:Jl j) :
  Calls Tryz.prog 16 #[v] w fun e w'=>e=.returned (.tuple #[.agg (aR ((DS j).getD kz)),.int .i64 (if (DS j).isSome then 0 else 100)])/\Fr NoB w w':=by
 obtain ⟨v0,v1,v2,v3,v4,rfl,dw⟩:=hat.form;have HC:Hid (∀ u,Fr NoB w u->Calls Tryz.prog 41 #[.agg #[v0,v1,v2,v3,v4]] u fun e w'=>e=.returned (.int .i64 (aw 0 j:Int))/\Fr NoB u w'):=hd' (fun u f=>pB (All u) j _ u (hx.eG f) (fun _ h=>h) (hat.all f) eK);have b0:=(Blk.new w 31 #[v0,v1,v2,v3,v4]).alloc (.cells zk 27);have bk:Blk ((w.alloc (.cells #[v0,v1,v2,v3,v4] 31)).alloc (.cells zk 27)) (w.heap.size+1) 27 zk:=by
  have:=Blk.new (w.alloc (.cells #[v0,v1,v2,v3,v4] 31)) 27 zk;simpa using this
 have f0:Fr NoB w ((w.alloc (.cells #[v0,v1,v2,v3,v4] 31)).alloc (.cells zk 27)):=((Fr.refl _ _).alloc _).alloc _;have gi:aw 0 j=0->Jh j:=fun h=>by
  obtain ⟨k,i,t,l,ks⟩:=j;exact fun h6=>((jZ (mo 0 k i t l ks h).1).2.2 h6).1
 have HR:Hid (aw 0 j=0->∀ u,Fr NoB w u->Calls Tryz.prog 42 #[.agg #[v0,v1,v2,v3,v4]] u fun e w'=>pA (gP j) e/\Fr NoB u w'):=hd' (fun h u f=>Jg j _ u (hx.eG f) (hat.all f) (gi h) hsz);have Vn:∀ k,gP j=some k->KySm k:=fun k h=>Nk h hsz;obtain ⟨res,aH⟩:∃ r,r=DS j:=⟨_,rfl⟩;rw [<- aH];have bV:=hd' aH;have zb:=dP kz;have Bl:=hd' (HC.out _ f0);clear aH hat gi HC;go_enter Tryz.func16,Tryz.ntmps16;go_upto_region 1 with fail;generalize (w.alloc (.cells #[v0,v1,v2,v3,v4] 31)).alloc (.cells zk 27)=W at *;by_cases hc:aw 0 j=0
 ·have HR1:=hd' (HR.out hc);rw [hc] at Bl;go_upto_region 3 with (first|(refine gI rfl _ rfl w.heap.size rfl b0 rfl ?_)|(go_at_call 41;((with_reducible refine Bl.out.mono ?_);rintro er w1 ⟨rfl,f1⟩)));have b1:=f1.blk b0 id;have Jj:=f1.blk bk id;have F1:=f0.trans f1;have mW:=hd' (HR1.out w1 F1);clear b0 bk f0 f1 HR HR1 Bl;cases hr:gP j with
  | none=>
   obtain rfl:res=none:=by rw [bV.out,DS,if_pos hc,hr]
   rw [hr] at mW;clear hr hc bV;go_upto_region 4 with (first|(refine gI rfl _ rfl w.heap.size rfl b1 rfl ?_)|(go_at_call 42;((with_reducible refine mW.out.mono ?_);rintro er w2 ⟨⟨kb,wd,nm,rfl⟩,f2⟩)));have F2:=F1.trans f2;have fA:Fr NoB w2 (w2.alloc (.cells (aR kb) 27)):=(Fr.refl _ _).alloc _;have BZ:=(f2.trans fA).blk Jj id;have F3:=F2.trans fA;clear Jj b1 f2 F1 F2 fA;obtain ⟨kty,kid,alg,n,e,x,y,sec⟩:=kb;generalize w2.alloc (.cells (aR ⟨kty,kid,alg,n,e,x,y,sec⟩) 27)=W3 at *;have HF:=hd' (Fv wd nm W3 (hx.eG F3));go_wp2_with (first|(go_at_call 43;((with_reducible refine HF.out.mono ?_);rintro er w4 ⟨rfl,f4⟩;have IC:=f4.blk BZ id))|(refine wpList_store_row rfl 27 _ _ rfl (w.heap.size+1) zk rfl rfl 27 _ IC bf rfl zb ?_));exact bodyPost_ret (v:=.tuple #[.agg (aR kz),.int .i64 100]) (cr rfl _ _ (w.heap.size+1) kz _ rfl rfl (IC.setRow zk)) rfl ⟨rfl,(F3.trans f4).setRow (w.heap.size+1) _ (Or.inl (by omega))⟩
  | some k=>
   have aH:res=if cI k then some k else none:=by rw [bV.out,DS,if_pos hc,hr]
   have gH:=Vn k hr;have HK:Hid (∀ u,Calls Tryz.prog 12 #[.agg (aR k)] u fun e w'=>e=.returned (.int .i64 (if cI k then 0 else 100))/\Fr NoB u w'):=hd' (fun u=>kI k u gH);rw [hr] at mW;clear hr hc bV gH Vn;go_upto_region 4 with (first|(refine gI rfl _ rfl w.heap.size rfl b1 rfl ?_)|(go_at_call 42;((with_reducible refine mW.out.mono ?_);rintro er w2 ⟨rfl,f2⟩)));have F2:=F1.trans f2;have bA:=Blk.new w2 27 (aR k);have fA:Fr NoB w2 (w2.alloc (.cells (aR k) 27)):=(Fr.refl _ _).alloc _;have BZ:=(f2.trans fA).blk Jj id;have F3:=F2.trans fA;have Vo:=dP k;clear Jj b1 f2 F1 F2 fA;obtain ⟨kty,kid,alg,n,e,x,y,sec⟩:=k;generalize w2.alloc (.cells (aR ⟨kty,kid,alg,n,e,x,y,sec⟩) 27)=W3 at *;generalize w2.heap.size=GK at *;have HF:=hd' (Jm W3);have HQ:Hid (∀ u,Fr NoB W3 u->u.cell? ⟨GK,0,none⟩=some (.int .i64 kty)/\u.cell? ⟨GK,1,none⟩=some (.string ⟨kid.toArray⟩)/\u.cell? ⟨GK,2,none⟩=some (.string ⟨alg.toArray⟩)/\u.cell? ⟨GK,3,none⟩=some (.string ⟨n.toArray⟩)/\u.cell? ⟨GK,4,none⟩=some (.string ⟨e.toArray⟩)/\u.cell? ⟨GK,5,none⟩=some (.string ⟨x.toArray⟩)/\u.cell? ⟨GK,6,none⟩=some (.string ⟨y.toArray⟩)/\u.cell? ⟨GK,7,none⟩=some (.string ⟨sec.toArray⟩)):=hd' (fun u f=>by
    have b:=f.blk bA id;exact ⟨(b.cell 0).trans rfl,(b.cell 1).trans rfl,(b.cell 2).trans rfl,(b.cell 3).trans rfl,(b.cell 4).trans rfl,(b.cell 5).trans rfl,(b.cell 6).trans rfl,(b.cell 7).trans rfl⟩)
   cases gi:cI ⟨kty,kid,alg,n,e,x,y,sec⟩ with
   | false=>
    rw [gi] at aH HK;obtain rfl:res=none:=aH;clear gi;go_wp2_with (first|(go_at_call 43;((with_reducible refine HF.out.mono ?_);rintro er w4 ⟨rfl,f4⟩;obtain ⟨c0,c1,c2,c3,c4,c5,c6,c7⟩:=HQ.out w4 f4))|(go_at_call 12;((with_reducible refine (HK.out _).mono ?_);rintro er w5 ⟨rfl,f5⟩;have kA:=(f4.trans f5).blk BZ id))|(refine wpList_store_row rfl 27 _ _ rfl (w.heap.size+1) zk rfl rfl 27 _ kA bf rfl zb ?_));exact bodyPost_ret (v:=.tuple #[.agg (aR kz),.int .i64 100]) (cr rfl _ _ (w.heap.size+1) kz _ rfl rfl (kA.setRow zk)) rfl ⟨rfl,(F3.trans (f4.trans f5)).setRow (w.heap.size+1) _ (Or.inl (by omega))⟩
   | true=>
    rw [gi] at aH HK;obtain rfl:res=some ⟨kty,kid,alg,n,e,x,y,sec⟩:=aH;clear gi;go_wp2_with (first|(go_at_call 43;((with_reducible refine HF.out.mono ?_);rintro er w4 ⟨rfl,f4⟩;obtain ⟨c0,c1,c2,c3,c4,c5,c6,c7⟩:=HQ.out w4 f4))|(go_at_call 12;((with_reducible refine (HK.out _).mono ?_);rintro er w5 ⟨rfl,f5⟩;have kA:=(f4.trans f5).blk BZ id;obtain ⟨d0,d1,d2,d3,d4,d5,d6,d7⟩:=HQ.out w5 (f4.trans f5)))|(refine wpList_store_row rfl 27 _ _ rfl (w.heap.size+1) (aR ⟨kty,kid,alg,n,e,x,y,sec⟩) rfl rfl 27 _ kA bf rfl Vo ?_));exact bodyPost_ret (v:=.tuple #[.agg (aR ⟨kty,kid,alg,n,e,x,y,sec⟩),.int .i64 0]) (cr rfl _ _ (w.heap.size+1) ⟨kty,kid,alg,n,e,x,y,sec⟩ _ rfl rfl (kA.setRow _)) rfl ⟨rfl,(F3.trans (f4.trans f5)).setRow (w.heap.size+1) _ (Or.inl (by omega))⟩
 ·obtain rfl:res=none:=by rw [bV.out,DS,if_neg hc]
  have hci:¬ (aw 0 j:Int)=0:=by omega
  generalize aw 0 j=q at *;clear bV HR;go_wp2_with (first|(refine gI rfl _ rfl w.heap.size rfl b0 rfl ?_)|(go_at_call 41;((with_reducible refine Bl.out.mono ?_);rintro er w1 ⟨rfl,f1⟩;have Jj:=f1.blk bk id))|(refine wpList_store_row rfl 27 _ _ rfl (w.heap.size+1) zk rfl rfl 27 _ Jj bf rfl zb ?_));exact bodyPost_ret (v:=.tuple #[.agg (aR kz),.int .i64 100]) (cr rfl _ _ (w.heap.size+1) kz _ rfl rfl (Jj.setRow zk)) rfl ⟨rfl,(f0.trans f1).setRow (w.heap.size+1) _ (Or.inl (by omega))⟩
end Go.Proofs.YtbifjamddbpcjaaGreatDoor
