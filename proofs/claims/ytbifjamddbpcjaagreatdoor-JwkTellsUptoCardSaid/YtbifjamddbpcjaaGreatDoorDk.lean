/- JSON, the document's side: twice, form, check, Check. -/
import Derived.Test.YtbifjamddbpcjaaGreatDoorNa
import Derived.Test.YtbifjamddbpcjaaGreatDoorUp
namespace Go.Proofs.YtbifjamddbpcjaaGreatDoor
set_option maxRecDepth 100000
set_option maxHeartbeats 25600000
open Go.RowKit
theorem Bj (n:Nat) (h:n<9223372036854775808):bits .and .i64 (n:Int) 1=((n % 2:Nat):Int):=by
 have:=Ew n 1 h (by omega);rw [Nat.and_one_is_mod] at this;exact this
theorem jr {c res:Nat} {w:World} (d:Nat) (h:res=c / d % 2) (hc:c<2 ^ 8):Ending.returned (.int .i64 (bits .and .i64 ((c:Int) / (d:Int)) 1))=.returned (.int .i64 (res:Int))/\w=w:=by
 refine ⟨?_,rfl⟩;rw [h,<- Int.natCast_ediv,Bj _ (Nat.lt_of_le_of_lt (Nat.div_le_self _ _) (by omega))]
theorem Mp {s:Bs} {k q r:Nat} (h:¬ 8*s.length<=k) (hq:q=k / 8) (hr:r=k % 8) (hl:q<s.length):bM s k=s[q].toNat / 2 ^ (7 - r) % 2:=by
 unfold bM;rw [if_neg h,<- hq,<- hr,List.getD_eq_getElem?_getD,List.getElem?_eq_getElem hl];rfl
theorem Mq (s:Bs) (k:Nat) (w:World) (hl:s.length<=4398046511104) (hk:k<=140737488355328) :
  Calls Tryz.prog 68 #[.string ⟨s.toArray⟩,.int .i64 k] w fun e w'=>e=.returned (.int .i64 (bM s k:Nat))/\w'=w:=by
 have hsz:(⟨s.toArray⟩:ByteArray).size=s.length:=rfl;by_cases h:8*s.length<=k
 ·have k1:8*(s.length:Int)<=k:=by omega
  have HB:Hid (bM s k=0):=hd' (by unfold bM;rw [if_pos h]);go_enter Tryz.func68,Tryz.ntmps68;go_wp2_with fail;go_ret;exact ⟨by rw [HB.out];rfl,rfl⟩
 ·have k1:¬ 8*(s.length:Int)<=k:=by omega
  obtain ⟨q,hq⟩:∃ q,q=k / 8:=⟨_,rfl⟩;obtain ⟨r,hr⟩:∃ r,r=k % 8:=⟨_,rfl⟩;have tZ:q<s.length:=by omega
  have hg:=aM s q tZ;have HB:=hd' (Mp h hq hr tZ);obtain ⟨c,hc⟩:∃ c,c=s[q]:=⟨_,rfl⟩;rw [<- hc] at hg HB;have tY:=c.toNat_lt;have e1:(k:Int).tdiv 8=(q:Int):=by rw [Int.tdiv_eq_ediv_of_nonneg (by omega)];omega
  have e2:(k:Int).tmod 8=(r:Int):=by rw [Int.tmod_eq_emod_of_nonneg (by omega)];omega
  have e3:(k:Int) / 8=(q:Int):=by omega
  have e4:(k:Int) % 8=(r:Int):=by omega
  have k2:(0:Int)<=q:=by omega
  have k3:(q:Int)<s.length:=by omega
  have hr8:r<8:=by omega
  generalize bM s k=res at *;clear hq hr hc h;go_enter Tryz.func68,Tryz.ntmps68;go_upto_region 3 with fail;rcases (show r=0\/r=1\/r=2\/r=3\/r=4\/r=5\/r=6\/r=7 by omega) with rfl|rfl|rfl|rfl|rfl|rfl|rfl|rfl
  all_goals (simp only [Nat.reduceSub,Nat.reducePow,Nat.div_one] at HB)
  all_goals go_wp2_with fail
  all_goals go_ret
  ·exact jr 128 HB.out tY
  ·exact jr 64 HB.out tY
  ·exact jr 32 HB.out tY
  ·exact jr 16 HB.out tY
  ·exact jr 8 HB.out tY
  ·exact jr 4 HB.out tY
  ·exact jr 2 HB.out tY
  ·exact ⟨by rw [HB.out,Bj _ (by omega)];rfl,rfl⟩
theorem adp (i:Nat) (h:i<64):((⟨#[65,66,67,68,69,70,71,72,73,74,75,76,77,78,79,80,81,82,83,84,85,86,87,88,89,90,97,98,99,100,101,102,103,104,105,106,107,108,109,110,111,112,113,114,115,116,117,118,119,120,121,122,48,49,50,51,52,53,54,55,56,57,45,95]⟩:ByteArray)[i]'h)=dm i:=by
 have:∀ i:Fin 64,((⟨#[65,66,67,68,69,70,71,72,73,74,75,76,77,78,79,80,81,82,83,84,85,86,87,88,89,90,97,98,99,100,101,102,103,104,105,106,107,108,109,110,111,112,113,114,115,116,117,118,119,120,121,122,48,49,50,51,52,53,54,55,56,57,45,95]⟩:ByteArray)[i.val]'i.isLt)=dm i.val:=by decide +kernel
 exact this ⟨i,h⟩
theorem Mr {s:Bs} {i:Nat} (h:(8*s.length+5) / 6<=i):(ky s).take i=ky s:=List.take_of_length_le (by rw [tJ];exact h)
theorem fM (s:Bs) (w:World) (hl:s.length<=4398046511104) :
  Calls Tryz.prog 34 #[.string ⟨s.toArray⟩] w fun e w'=>e=.returned (.string ⟨(aX s).toArray⟩)/\Fr NoB w w':=by
 obtain ⟨res,aH⟩:∃ r,r=aX s:=⟨_,rfl⟩;rw [<- aH];have bV:Hid (res=ky s):=hd' (by rw [aH,EL]);have HT:Hid (∀ i,i<(8*s.length+5) / 6->(ky s).take (i+1)=(ky s).take i++[dm (cR (bM s) (6*i) 6)]):=hd' (Ih s);have HE:Hid (∀ i,(8*s.length+5) / 6<=i->(ky s).take i=ky s):=hd' (fun i h=>Mr h);have HL:Hid (∀ i,((ky s).take i).length<=(8*s.length+5) / 6):=hd' (fun i=>by rw [List.length_take,tJ];omega);have HB:Hid (∀ (k:Nat),k<=140737488355328->∀ u,Calls Tryz.prog 68 #[.string ⟨s.toArray⟩,.int .i64 k] u fun e w'=>e=.returned (.int .i64 (bM s k:Nat))/\w'=u):=hd' (fun k hk u=>Mq s k u hl hk);have HF:Hid (∀ (k j:Nat),cR (bM s) k (j+1)=2*cR (bM s) k j+bM s (k+j)):=hd' (fun k j=>rfl);have HF0:Hid (∀ (k:Nat),cR (bM s) k 0=0):=hd' (fun k=>rfl);have HFL:Hid (∀ (k j:Nat),cR (bM s) k j<2 ^ j):=hd' (fun k j=>AU _ k (AV s) j);have HBL:Hid (∀ (k:Nat),bM s k<2):=hd' (AV s);have hsz:(⟨s.toArray⟩:ByteArray).size=s.length:=rfl;generalize ky s=R at *;generalize cR (bM s)=FO at *;generalize bM s=BI at *;clear aH;go_enter Tryz.func34,Tryz.ntmps34;go_upto_region 2 with fail;have Nc:BR w.heap.size (w.alloc (.cells #[] 5)) (.slice (some ⟨w.heap.size,0,none⟩) 0 0) []:=BR.first w #[] [] rfl (by simp)
 have f0:Fr NoB w (w.alloc (.cells #[] 5)):=(Fr.refl _ _).alloc _;generalize w.alloc (.cells #[] 5)=W at *;go_wp2_with fail;go_loopw [3,4] (fun v3 v4 wr=>∃ i:Nat,i<=(8*s.length+5) / 6/\v4=.int .i64 ((6*i:Nat):Int)/\BR w.heap.size wr v3 (R.take i)/\Fr NoB w wr) (fun _ v4 _=>(8*s.length+5) - (intOf v4).toNat)
 case atStart=>exact ⟨0,Nat.zero_le _,rfl,by simpa using Nc,f0⟩
 case round=>
  clear Nc f0;obtain ⟨i,hi,rfl,hb,hf⟩:=hrel;obtain ⟨k,hk⟩:∃ k,k=6*i:=⟨_,rfl⟩;rw [<- hk];have HK:=hd' hk;by_cases hlt:8*s.length<=k
  ·have k1:¬ (k:Int)<8*(s.length:Int):=by omega
   have EE:=hd' (HE.out i (by omega));clear hk;have iE:=hb.conv;go_wp2_with fail;go_ret;exact ⟨by rw [EE.out,bV.out];rfl,hf⟩
  ·have k1:(k:Int)<8*(s.length:Int):=by omega
   have mn:=hd' (HT.out i (by omega));have jt:=HL.out i;rw [<- hk] at mn;clear hk;generalize R.take i=acc at *;go_upto_region 6 with fail;go_wp2_with fail;go_loopw [5,6] (fun v5 v6 w2=>∃ j:Nat,j<=6/\v6=.int .i64 j/\v5=.int .i64 (FO k j:Nat)/\w2=wr) (fun _ v6 _=>6 - (intOf v6).toNat)
   case atStart=>exact ⟨0,by omega,rfl,by rw [HF0.out];rfl,rfl⟩
   case round=>
    obtain ⟨j,hj,rfl,rfl,rfl⟩:=hrel;have ja:=HFL.out k j;have hp6:2 ^ j<=2 ^ 6:=Nat.pow_le_pow_right (by decide) hj;by_cases h6:j<6
    ·(have k2:(j:Int)<6:=by omega);have lF:Hid (∀ u,Calls Tryz.prog 68 #[.string ⟨s.toArray⟩,.int .i64 ((k:Int)+(j:Int))] u fun e w'=>e=.returned (.int .i64 (BI (k+j):Nat))/\w'=u):=hd' (fun u=>HB.out (k+j) (by omega) u);have ju:=HBL.out (k+j);have qA:=hd' (HF.out k j);generalize FO k j=x at *;generalize BI (k+j)=b at *;go_wp2_with (go_at_call 68;((with_reducible refine (lF.out _).mono ?_);rintro e w3 ⟨rfl,rfl⟩));go_roundw
     case rel=>exact ⟨j+1,by omega,by simp,by rw [qA.out];simp,trivial⟩
     case measure=>simp [intOf];omega
    ·obtain rfl:j=6:=by omega
     generalize FO k 6=x at *;(have adq:x<64:=by omega);have t1:=adp x adq;(have k2:(0:Int)<=x:=by omega);(have k3:(x:Int)<64:=by omega);generalize dm x=c at *;have fA:Fr NoB wr (wr.alloc (.cells #[.int .u8 (c.toNat:Int)] 5)):=(Fr.refl _ _).alloc _;have hbA:=hb.fr fA;have E8:=hf.size;go_wp2_with (at_builtin;go_loud (refine dL rfl _ _ rfl w.heap.size u3 acc rfl hbA wr.heap.size 1 1 [c] rfl rfl (aF wr #[.int .u8 (c.toNat:Int)] [c] rfl) (by simp;omega) (by simp;omega) ?_;intro v4 w4 aB hgr));go_roundw
     case rel=>exact ⟨i+1,by have hk:=HK.out;omega,by rw [show 6*(i+1)=k+6 by have hk:=HK.out;omega];simp,by rw [mn.out];exact aB,hbA.grown (hf.trans fA) hgr (Nat.le_refl _)⟩
     case measure=>(have hk:=HK.out;simp [intOf];omega)
def NI (lo:Nat) (w:World) (v:Value) (l:List Nat):Prop:=w.ownsRow lo 3 1 v l.length (l.map (fun n:Nat=>Value.int .i64 (n:Int)))
theorem NI.fr {lo:Nat} {w w':World} {v:Value} {l:List Nat} (h:NI lo w v l) (f:Fr NoB w w'):NI lo w' v l:=Fr.row f h (fun _ _ e=>e)
theorem NI.grown {lo:Nat} {w0 w w':World} {v:Value} {l:List Nat} (h:NI lo w v l) (f:Fr NoB w0 w) (hg:w.grownBy w' v.ownBlock) (cN:w0.heap.size<=lo):Fr NoB w0 w':=
 f.grown hg (fun j hj hlt=>absurd (World.ownsRow.lt h j hj).1 (by omega))
theorem NI.form {lo:Nat} {w:World} {v:Value} {l:List Nat} (h:NI lo w v l):∃ ao c,v=.slice ao l.length c:=by
 rcases h.2 with ⟨rfl,h0⟩|⟨g,cap,cur,rfl,_⟩
 ·exact ⟨none,0,by rw [h0]⟩
 ·exact ⟨_,_,rfl⟩
theorem NI.cells {lo:Nat} {w:World} {ao:Option Addr} {n c:Nat} {l:List Nat} (h:NI lo w (.slice ao n c) l) (hn:0<l.length):∃ g,ao=some ⟨g,0,none⟩/\g<w.heap.size/\∀ (i:Nat),i<l.length->w.cell? ⟨g,i,none⟩=some (.int .i64 (l.getD i 0:Nat)):=by
 have hc:=@World.ownsRow.cells _ _ _ _ _ _ _ h;rcases h.2 with ⟨_,h0⟩|⟨g,cap,cur,e,hg,hh,_⟩
 ·omega
 ·cases e;refine ⟨g,rfl,lt_of_block hh,fun i hi => ?_⟩;have:=hc (g:=g) rfl i (.int .i64 (l.getD i 0:Nat)) (by rw [List.getElem?_map,List.getD_eq_getElem?_getD,List.getElem?_eq_getElem hi];rfl);rwa [bT,Nat.zero_add] at this
end Go.Proofs.YtbifjamddbpcjaaGreatDoor
namespace Go.Proofs.YtbifjamddbpcjaaGreatDoor
set_option maxRecDepth 100000
set_option maxHeartbeats 25600000
open Go.RowKit
theorem aT.Zw {S:Nat->Prop} {w u:World} {a:Option Addr} {n c:Nat} {cs:List Value} (h:aT S w (.slice a n c) n cs) (hS:∀ g,S g->g<w.heap.size) (f:Fr NoB w u) (hn:0<n):∃ g o,a=some ⟨g,o,none⟩/\∀ (i:Nat) x,cs[i]?=some x->u.cell? ⟨g,o+i,none⟩=some x:=by
 rcases h with ⟨h0,_⟩|⟨g,o,c',he,hg,hc⟩
 ·omega
 ·simp only [Value.slice.injEq,true_and] at he;exact ⟨g,o,he.1,fun i x hx=>(f.cell (p:=⟨g,o+i,none⟩) (hS g hg) (fun e=>e)).trans (hc i x hx)⟩
theorem fJ {ks:List Bs} {m:Nat} (h:m<ks.length):ks[m]=af ks m:=by simp [af,List.getD,h]
theorem Bw {ks:List Bs} {m:Nat} (h:m<ks.length) (hn:(ks.take m).Nodup) (hx:∀ x,x<m->af ks x≠af ks m):(ks.take (m+1)).Nodup:=by
 rw [(List.take_append_getElem h).symm,List.nodup_append];refine ⟨hn,by simp,fun a ha b hb => ?_⟩;obtain ⟨i,hi,rfl⟩:=List.getElem_of_mem ha;rw [List.mem_singleton] at hb;subst hb;rw [List.length_take] at hi;have:=hx i (by omega);rw [<- fJ h,<- fJ (by omega)] at this;simpa using this
theorem ET {ks:List Bs} {m p:Nat} (h:m<ks.length) (hp:p<m) (he:af ks m=af ks p):¬ ks.Nodup:=by
 intro hn;rw [<- fJ h,<- fJ (by omega)] at he;have h2:=List.pairwise_iff_getElem.1 hn p m (by omega) h hp;exact h2 he.symm
theorem Bx (S:Nat->Prop) (ks:List Bs) (v:Value) (w:World) (hS:∀ g,S g->g<w.heap.size) (gH:aT S w v ks.length (ks.map sV)) (hl:ks.length<=big) :
  Calls Tryz.prog 189 #[v] w fun e w'=>e=.returned (.bool (!decide ks.Nodup))/\Fr NoB w w':=by
 obtain ⟨ka,kc,rfl⟩:=gH.sl;unfold big at hl;have HK:=hd' gH;have HS:=hd' hS;clear gH hS;go_enter Tryz.func189,Tryz.ntmps189;go_wp2_with fail;go_loopw [3] (fun v wr=>∃ m:Nat,m<=ks.length/\v=.int .i64 m/\Fr NoB w wr/\Hid (ks.take m).Nodup) (fun v _=>ks.length - (intOf v).toNat)
 case atStart=>exact ⟨0,Nat.zero_le _,rfl,Fr.refl _ _,hd' (by simp)⟩
 case round=>
  obtain ⟨m,hm,rfl,hf,HN⟩:=hrel;by_cases hlt:m<ks.length
  ·have i1:(0:Int)<=m:=by omega
   have i2:(m:Int)<ks.length:=by omega
   go_wp2_with fail;go_loopw [4] (fun v wr2=>∃ p:Nat,p<=m/\v=.int .i64 p/\Fr NoB w wr2/\Hid (∀ x,x<p->af ks x≠af ks m)) (fun v _=>m - (intOf v).toNat)
   case atStart=>exact ⟨0,Nat.zero_le _,rfl,hf,hd' (fun _ h=>absurd h (by omega))⟩
   case round=>
    obtain ⟨p,hp,rfl,h2,HP⟩:=hrel;by_cases hpl:p<m
    ·(have j1:(0:Int)<=p:=by omega);(have j2:(p:Int)<m:=by omega);(have j3:(p:Int)<ks.length:=by omega);obtain ⟨gk,ok,rfl,wS⟩:=HK.out.Zw HS.out h2 (by omega);have em:=wS m (sV ks[m]) (by simp [hlt]);have ep:=wS p (sV ks[p]) (by simp [show p<ks.length by omega]);rw [fJ hlt] at em;rw [fJ (by omega)] at ep;clear wS;by_cases he:af ks m=af ks p
     ·(have hd:(!decide ks.Nodup)=true:=by rw [decide_eq_false (ET hlt hpl he)];rfl);rw [he] at em;have HD:=hd' hd;clear HN HP he hd;generalize af ks p=kp at *;go_wp2_with fail;go_quiet (fail);go_wp2_with fail;go_ret;exact ⟨by rw [HD.out];rfl,h2.drewN _⟩
     ·(have hb:(af ks m==af ks p)=false:=by simpa using he);(have ug:¬ ((⟨(af ks m).toArray⟩:ByteArray)=⟨(af ks p).toArray⟩):=by simpa [Bz] using he);have HP2:Hid (∀ x,x<p+1->af ks x≠af ks m):=hd' (fun x hx=>by
       rcases Nat.lt_or_ge x p with h|h
       ·exact HP.out x h
       ·(have:x=p:=by omega);subst this;exact fun e=>he e.symm)
      clear HP he;generalize DA:af ks m=km at em hb ug;generalize af ks p=kp at ep hb ug;go_wp2_with fail;go_quiet (fail);go_wp2_with fail;go_roundw
      case rel=>exact ⟨p+1,by omega,by simp,h2.drewN _,by rw [<- DA] at *;exact HP2⟩
      case measure=>simp [intOf];omega
    ·obtain rfl:p=m:=by omega
     go_wp2_with fail;go_roundw
     case rel=>exact ⟨p+1,by omega,by simp,h2,hd' (Bw hlt HN.out HP.out)⟩
     case measure=>simp [intOf];omega
  ·obtain rfl:m=ks.length:=by omega
   have hd:(!decide ks.Nodup)=false:=by have:=HN.out;rw [List.take_length] at this;rw [decide_eq_true this];rfl
   have HD:=hd' hd;clear hd;go_wp2_with fail;go_ret;exact ⟨by rw [HD.out];rfl,hf⟩
theorem nS {k i:Int} (h:¬ (i≠0/\k≠3)) (h3:k≠3):gL k i=true:=by
 have:i=0:=Classical.byContradiction fun e=>h ⟨e,h3⟩;simp [gL,this]
theorem mb {k:Int} {t:Bs} (h:¬ (t≠[]/\k≠4)) (h4:k≠4):gg k t=true:=by
 have:t=[]:=Classical.byContradiction fun e=>h ⟨e,h4⟩;simp [gg,this]
theorem EU {k i:Int} {t:Bs} {n:Nat} {ks:List Bs} (h:i≠0/\k≠3):aW k i t n ks=false:=by simp [aW,gL,h.1,h.2]
theorem BA {k i:Int} {t:Bs} {n:Nat} {ks:List Bs} (h:t≠[]/\k≠4):aW k i t n ks=false:=by simp [aW,gg,h.1,h.2]
theorem IQ {k i:Int} {t:Bs} {n:Nat} {ks:List Bs} (h:ks.all Lib.validD=false):aW k i t n ks=false:=by simp [aW,h]
theorem len_nil {ks:List Bs} (h:(ks.length:Int)=0):ks=[]:=List.eq_nil_of_length_eq_zero (by omega)
section
variable {i:Int} {t:Bs} {n:Nat} {ks:List Bs}
theorem EV {k:Int} (hk:k=0\/k=1\/k=2) (hv:ks.all Lib.validD=true) (h1:¬ (i≠0/\k≠3)) (h2:¬ (t≠[]/\k≠4)):aW k i t n ks=(((n:Int)==0)&&((ks.length:Int)==0)):=by
 have e1:=nS h1 (by omega);have e2:=mb h2 (by omega);have e6:(k==6)=false:=by simp;omega
 have e5:(k==5)=false:=by simp;omega
 have e0:decide (0<=k)=true:=by simp;omega
 have e7:decide (k<7)=true:=by simp;omega
 unfold aW fj cH;rw [hv,e1,e2,e0,e7,e6,e5];by_cases mc:(ks.length:Int)=0
 ·obtain rfl:=len_nil mc;rw [Bool.eq_iff_iff];simp;intro _;omega
 ·have hne:ks≠[]:=by rintro rfl;exact mc rfl
  have hb:((ks.length:Int)==0)=false:=beq_eq_false_iff_ne.2 mc;rw [hb];simp [hne]
theorem IU (hv:ks.all Lib.validD=true) (h2:¬ (t≠[]/\(3:Int)≠4)):aW 3 i t n ks=(decide (i<=9007199254740991)&&decide (-9007199254740991<=i)&&((n:Int)==0)&&((ks.length:Int)==0)):=by
 have e2:=mb h2 (by omega);have e1:gL 3 i=(decide (i<=9007199254740991)&&decide (-9007199254740991<=i)):=by
  unfold gL;by_cases h:i=0
  ·subst h;rfl
  ·simp [h]
 unfold aW fj cH;rw [hv,e1,e2];by_cases mc:(ks.length:Int)=0
 ·obtain rfl:=len_nil mc;rw [Bool.eq_iff_iff];simp;constructor
  ·rintro ⟨a,b,c⟩;exact ⟨⟨b,c⟩,a⟩
  ·rintro ⟨⟨b,c⟩,a⟩;exact ⟨a,b,c⟩
 ·have hne:ks≠[]:=by rintro rfl;exact mc rfl
  have hb:((ks.length:Int)==0)=false:=beq_eq_false_iff_ne.2 mc;rw [hb];simp [hne]
theorem IV (hv:ks.all Lib.validD=true) (h1:¬ (i≠0/\(4:Int)≠3)):aW 4 i t n ks=(Lib.validD t&&((n:Int)==0)&&((ks.length:Int)==0)):=by
 have e1:=nS h1 (by omega);have e2:gg 4 t=Lib.validD t:=by
  unfold gg;cases t with
  | nil=>rfl
  | cons a b=>simp
 unfold aW fj cH;rw [hv,e1,e2];by_cases mc:(ks.length:Int)=0
 ·obtain rfl:=len_nil mc;rw [Bool.eq_iff_iff];simp;constructor
  ·rintro ⟨a,b⟩;exact ⟨b,a⟩
  ·rintro ⟨b,a⟩;exact ⟨a,b⟩
 ·have hne:ks≠[]:=by rintro rfl;exact mc rfl
  have hb:((ks.length:Int)==0)=false:=beq_eq_false_iff_ne.2 mc;rw [hb];simp [hne]
theorem EW (hv:ks.all Lib.validD=true) (h1:¬ (i≠0/\(5:Int)≠3)) (h2:¬ (t≠[]/\(5:Int)≠4)):aW 5 i t n ks=((ks.length:Int)==0):=by
 have e1:=nS h1 (by omega);have e2:=mb h2 (by omega);unfold aW fj cH;rw [hv,e1,e2];by_cases mc:(ks.length:Int)=0
 ·obtain rfl:=len_nil mc;simp
 ·have hne:ks≠[]:=by rintro rfl;exact mc rfl
  have hb:((ks.length:Int)==0)=false:=beq_eq_false_iff_ne.2 mc;rw [hb];simp [hne]
theorem IW (hv:ks.all Lib.validD=true) (h1:¬ (i≠0/\(6:Int)≠3)) (h2:¬ (t≠[]/\(6:Int)≠4)):aW 6 i t n ks=(((ks.length:Int)==(n:Int))&&decide ks.Nodup):=by
 have e1:=nS h1 (by omega);have e2:=mb h2 (by omega);unfold aW fj cH;rw [hv,e1,e2];rw [Bool.eq_iff_iff];simp
theorem MW {k:Int} (h:¬ (0<=k/\k<7)):aW k i t n ks=false:=by
 unfold aW;by_cases h0:0<=k
 ·simp [show ¬ k<7 by omega]
 ·simp [h0]
end
theorem EX (S:Nat->Prop) (k i:Int) (t:Bs) (n:Nat) (ks:List Bs) (la ka:Option Addr) (lc kc:Nat) (w:World) (hS:∀ g,S g->g<w.heap.size) (_hn:n<=big)
  (DA:aT S w (.slice ka ks.length kc) ks.length (ks.map sV)) (jU:ks.length<=big) (eK:t.length<=4398046511104/\∀ s∈ks,s.length<=4398046511104) :
  Calls Tryz.prog 139 #[jV k i t (.slice la n lc) (.slice ka ks.length kc)] w fun e w'=>e=.returned (.bool (aW k i t n ks))/\Fr NoB w w':=by
 have hkb:=jU;unfold big at _hn jU;have f0:Fr NoB w (w.alloc (.cells #[.int .i64 k,.int .i64 i,.string ⟨t.toArray⟩,.slice la n lc,.slice ka ks.length kc] 31)):=(Fr.refl _ _).alloc _;have g0:=Blk.new w 31 #[.int .i64 k,.int .i64 i,.string ⟨t.toArray⟩,.slice la n lc,.slice ka ks.length kc];generalize hW:w.alloc (.cells #[.int .i64 k,.int .i64 i,.string ⟨t.toArray⟩,.slice la n lc,.slice ka ks.length kc] 31)=W at f0 g0;have HW:=hd' hW;have HB:Hid (∀ u,Fr NoB W u->u.cell? ⟨w.heap.size,0,none⟩=some (.int .i64 k)/\u.cell? ⟨w.heap.size,1,none⟩=some (.int .i64 i)/\u.cell? ⟨w.heap.size,2,none⟩=some (.string ⟨t.toArray⟩)/\u.cell? ⟨w.heap.size,3,none⟩=some (.slice la n lc)/\u.cell? ⟨w.heap.size,4,none⟩=some (.slice ka ks.length kc)):=hd' (fun u f=>by
  have a:=f.blk g0 (fun e=>e);exact ⟨(a.cell 0).trans rfl,(a.cell 1).trans rfl,(a.cell 2).trans rfl,(a.cell 3).trans rfl,(a.cell 4).trans rfl⟩)
 have HK:=hd' DA;have HS:=hd' hS;have HM:=hd' eK;generalize hF:aW k i t n ks=F;have HF:=hd' hF;clear hW DA hS eK hF g0;go_enter Tryz.func139,Tryz.ntmps139;go_wp2_with (rw [HW.out]);go_loopw [3] (fun v wr=>∃ m:Nat,m<=ks.length/\v=.int .i64 m/\Fr NoB W wr/\Hid ((ks.take m).all Lib.validD=true)) (fun v _=>ks.length - (intOf v).toNat)
 case atStart=>exact ⟨0,Nat.zero_le _,rfl,Fr.refl _ _,hd' rfl⟩
 case round=>
  obtain ⟨m,hm,rfl,hf,HV⟩:=hrel;obtain ⟨c0,c1,c2,c3,c4⟩:=HB.out wr hf;by_cases hlt:m<ks.length
  ·have i1:(0:Int)<=m:=by omega
   have i2:(m:Int)<ks.length:=by omega
   obtain ⟨gk,ok,rfl,wS⟩:=HK.out.Zw HS.out (f0.trans hf) (by omega);have em:=wS m (sV ks[m]) (by simp [hlt]);have Ix:=HM.out.2 ks[m] (List.getElem_mem hlt);have MX:Hid (ks.take (m+1)=ks.take m++[ks[m]]):=hd' (List.take_append_getElem hlt).symm;have Iy:Hid (ks[m]∈ks):=hd' (List.getElem_mem hlt);clear wS;generalize ks[m]=q at *;have HU:=hd' (fun u=>DB q u Ix);cases hv:Lib.validD q with
   | false=>
    rw [hv] at HU;have hF:F=false:=by
     rw [<- HF.out];apply IQ;cases ha:ks.all Lib.validD
     ·rfl
     ·have:=List.all_eq_true.1 ha q Iy.out;rw [hv] at this;cases this
    clear hv;go_wp2_with (go_at_call 188;((with_reducible refine (HU.out _).mono ?_);rintro e w2 ⟨rfl,f2⟩));go_ret;exact ⟨by rw [hF];rfl,(f0.trans hf).trans f2⟩
   | true=>
    rw [hv] at HU;have Zx:Hid ((ks.take (m+1)).all Lib.validD=true):=hd' (by rw [MX.out,List.all_append,HV.out];simp [hv]);clear hv;go_wp2_with (go_at_call 188;((with_reducible refine (HU.out _).mono ?_);rintro e w2 ⟨rfl,f2⟩));go_roundw
    case rel=>exact ⟨m+1,by omega,by simp,hf.trans f2,Zx⟩
    case measure=>simp [intOf];omega
  ·obtain rfl:m=ks.length:=by omega
   have HA:Hid (ks.all Lib.validD=true):=hd' (by have:=HV.out;rwa [List.take_length] at this);clear HV;go_upto_region 6 with fail;have HT:=hd' HM.out.1;go_cut [35] (fun v wx=>v=.bool (decide (i≠0/\k≠3) || decide (t≠[]/\k≠4))/\wr=wx)
   case first=>
    by_cases h1:i=0
    ·(have b1:(i != 0)=false:=by simpa using h1);cases t with
     | nil=>
      go_wp2_with fail;go_meet;exact ⟨by simp [h1],rfl⟩
     | cons t0 t1=>
      (have hne:(t0::t1:Bs)≠[]:=by simp);by_cases h2:k=4
      ·(have b2:(k != 4)=false:=by simpa using h2);go_wp2_with fail;go_meet;exact ⟨by simp [h1,h2],rfl⟩
      ·(have b2:(k != 4)=true:=by simpa using h2);go_wp2_with fail;go_meet;exact ⟨by simp [h1,h2],rfl⟩
    ·(have b1:(i != 0)=true:=by simpa using h1);by_cases h3:k=3
     ·(have b3:(k != 3)=false:=by simpa using h3);(have h2:k≠4:=by omega);(have b2:(k != 4)=true:=by simpa using h2);cases t with
      | nil=>
       go_wp2_with fail;go_meet;exact ⟨by simp [h3],rfl⟩
      | cons t0 t1=>
       go_wp2_with fail;go_meet;exact ⟨by simp [h3],rfl⟩
     ·(have b3:(k != 3)=true:=by simpa using h3);go_wp2_with fail;go_meet;exact ⟨by simp [h1,h3],rfl⟩
   case rest=>
    obtain ⟨rfl,rfl⟩:=hcut;have ff:=f0.trans hf;by_cases h1:i≠0/\k≠3
    ·(have hF:F=false:=by rw [<- HF.out,EU h1]);(have hb:(decide (i≠0/\k≠3) || decide (t≠[]/\k≠4))=true:=by simp [h1]);rw [hb];clear h1 hb;go_wp2_with fail;go_ret;exact ⟨by rw [hF];rfl,ff⟩
    ·by_cases h2:t≠[]/\k≠4
     ·(have hF:F=false:=by rw [<- HF.out,BA h2]);(have hb:(decide (i≠0/\k≠3) || decide (t≠[]/\k≠4))=true:=by simp [h2]);rw [hb];clear h1 h2 hb;go_wp2_with fail;go_ret;exact ⟨by rw [hF];rfl,ff⟩
     ·(have hb:(decide (i≠0/\k≠3) || decide (t≠[]/\k≠4))=false:=by rw [decide_eq_false h1,decide_eq_false h2];rfl);rw [hb];clear hb;by_cases k0:k=0\/k=1\/k=2
      ·have nR:=hd' (HF.out.symm.trans (EV (n:=n) k0 HA.out h1 h2));clear h1 h2 HF HA;rcases k0 with rfl|rfl|rfl
       ·cases b1:((n:Int)==0) with
        | false=>
         go_wp2_with fail;go_ret;exact ⟨by rw [nR.out,b1];simp,ff⟩
        | true=>
         cases b2:((ks.length:Int)==0) with
         | false=>
          go_wp2_with fail;go_ret;exact ⟨by rw [nR.out,b1,b2];rfl,ff⟩
         | true=>
          go_wp2_with fail;go_ret;exact ⟨by rw [nR.out,b1,b2];rfl,ff⟩
       ·cases b1:((n:Int)==0) with
        | false=>
         go_wp2_with fail;go_ret;exact ⟨by rw [nR.out,b1];simp,ff⟩
        | true=>
         cases b2:((ks.length:Int)==0) with
         | false=>
          go_wp2_with fail;go_ret;exact ⟨by rw [nR.out,b1,b2];rfl,ff⟩
         | true=>
          go_wp2_with fail;go_ret;exact ⟨by rw [nR.out,b1,b2];rfl,ff⟩
       ·cases b1:((n:Int)==0) with
        | false=>
         go_wp2_with fail;go_ret;exact ⟨by rw [nR.out,b1];simp,ff⟩
        | true=>
         cases b2:((ks.length:Int)==0) with
         | false=>
          go_wp2_with fail;go_ret;exact ⟨by rw [nR.out,b1,b2];rfl,ff⟩
         | true=>
          go_wp2_with fail;go_ret;exact ⟨by rw [nR.out,b1,b2];rfl,ff⟩
      ·by_cases k3:k=3
       ·subst k3;have nR:=hd' (HF.out.symm.trans (IU (n:=n) HA.out h2));clear h1 h2 HF HA k0;by_cases a1:i<=9007199254740991
        ·by_cases a2 : -9007199254740991<=i
         ·cases b1:((n:Int)==0) with
          | false=>
           go_wp2_with fail;go_ret;exact ⟨by rw [nR.out,decide_eq_true a1,decide_eq_true a2,b1];simp,ff⟩
          | true=>
           cases b2:((ks.length:Int)==0) with
           | false=>
            go_wp2_with fail;go_ret;exact ⟨by rw [nR.out,decide_eq_true a1,decide_eq_true a2,b1,b2];rfl,ff⟩
           | true=>
            go_wp2_with fail;go_ret;exact ⟨by rw [nR.out,decide_eq_true a1,decide_eq_true a2,b1,b2];rfl,ff⟩
         ·go_wp2_with fail;go_ret;exact ⟨by rw [nR.out,decide_eq_true a1,decide_eq_false (show ¬ -9007199254740991<=i by omega)];rfl,ff⟩
        ·go_wp2_with fail;go_ret;exact ⟨by rw [nR.out,decide_eq_false (show ¬ i<=9007199254740991 by omega)];rfl,ff⟩
       ·by_cases k4:k=4
        ·subst k4;have nR:=hd' (HF.out.symm.trans (IV (n:=n) HA.out h1));have HU:=hd' (fun u=>DB t u HT.out);clear h1 h2 HF HA k0 k3;cases hv:Lib.validD t with
         | false=>
          rw [hv] at HU nR;go_wp2_with (go_at_call 188;((with_reducible refine (HU.out _).mono ?_);rintro e w2 ⟨rfl,f2⟩;obtain ⟨c0,c1,c2,c3,c4⟩:=HB.out w2 (hf.trans f2)));go_ret;exact ⟨by rw [nR.out];rfl,ff.trans f2⟩
         | true=>
          rw [hv] at HU nR;cases b1:((n:Int)==0) with
          | false=>
           go_wp2_with (go_at_call 188;((with_reducible refine (HU.out _).mono ?_);rintro e w2 ⟨rfl,f2⟩;obtain ⟨c0,c1,c2,c3,c4⟩:=HB.out w2 (hf.trans f2)));go_ret;exact ⟨by rw [nR.out,b1];simp,ff.trans f2⟩
          | true=>
           cases b2:((ks.length:Int)==0) with
           | false=>
            go_wp2_with (go_at_call 188;((with_reducible refine (HU.out _).mono ?_);rintro e w2 ⟨rfl,f2⟩;obtain ⟨c0,c1,c2,c3,c4⟩:=HB.out w2 (hf.trans f2)));go_ret;exact ⟨by rw [nR.out,b1,b2];rfl,ff.trans f2⟩
           | true=>
            go_wp2_with (go_at_call 188;((with_reducible refine (HU.out _).mono ?_);rintro e w2 ⟨rfl,f2⟩;obtain ⟨c0,c1,c2,c3,c4⟩:=HB.out w2 (hf.trans f2)));go_ret;exact ⟨by rw [nR.out,b1,b2];rfl,ff.trans f2⟩
        ·by_cases k5:k=5
         ·subst k5;have nR:=hd' (HF.out.symm.trans (EW (n:=n) HA.out h1 h2));clear h1 h2 HF HA k0 k3 k4;cases b2:((ks.length:Int)==0) with
          | false=>
           go_wp2_with fail;go_ret;exact ⟨by rw [nR.out,b2];rfl,ff⟩
          | true=>
           go_wp2_with fail;go_ret;exact ⟨by rw [nR.out,b2];rfl,ff⟩
         ·by_cases k6:k=6
          ·subst k6;have nR:=hd' (HF.out.symm.trans (IW (n:=n) HA.out h1 h2));have HTW:=hd' (Bx S ks _ wr (fun g hg=>Nat.lt_of_lt_of_le (HS.out g hg) ff.size) (HK.out.fr (fun g hg=>ff.block g (HS.out g hg) (fun e=>e))) hkb);clear h1 h2 HF HA k0 k3 k4 k5;cases b2:((ks.length:Int)==(n:Int)) with
           | false=>
            go_wp2_with fail;go_ret;exact ⟨by rw [nR.out,b2];rfl,ff⟩
           | true=>
            go_wp2_with (go_at_call 189;((with_reducible refine HTW.out.mono ?_);rintro e w2 ⟨rfl,f2⟩));go_ret;exact ⟨by rw [nR.out,b2];simp,ff.trans f2⟩
          ·have nR:=hd' (HF.out.symm.trans (MW (n:=n) (i:=i) (t:=t) (ks:=ks) (k:=k) (by omega)));(have q0:(k==0)=false:=by simp;omega);(have q1:(k==1)=false:=by simp;omega);(have q2:(k==2)=false:=by simp;omega);(have q3:(k==3)=false:=by simp;omega);(have q4:(k==4)=false:=by simp;omega);(have q5:(k==5)=false:=by simp;omega);(have q6:(k==6)=false:=by simp;omega);clear h1 h2 HF HA k0 k3 k4 k5 k6;go_wp2_with fail;go_ret;exact ⟨by rw [nR.out];rfl,ff⟩
mutual
def PJ:Jv->Prop
 | .mk _ _ t l ks=>t.length<=4398046511104/\l.length<=big/\ks.length<=big/\(∀ s∈ks,s.length<=4398046511104)/\wT l
def wT:List Jv->Prop
 | []=>True
 | j::r=>PJ j/\wT r
end
theorem wT.get:∀ (l:List Jv),wT l->∀ x∈l,PJ x
 | [],_,x,hx=>by simp at hx
 | j::r,h,x,hx=>by
  simp only [wT] at h;rcases List.mem_cons.1 hx with rfl|hx
  ·exact h.1
  ·exact wT.get r h.2 x hx
theorem wU (n:Nat) (l:List Jv) (m:Nat) (h:m<l.length):bI n (l.drop m)=if aw n l[m]=0 then bI n (l.drop (m+1)) else aw n l[m]:=by
 rw [List.drop_eq_getElem_cons h,bI]
mutual
theorem IX:∀ j:Jv,iY j<=8388608->PJ j
 | .mk k i t l ks,h=>by
  have h1:=qJ l;have h2:=wV ks;simp only [iY] at h;simp only [PJ];exact ⟨by omega,by unfold big;omega,by unfold big;omega,fun s hs=>by have:=qK ks s hs;omega,DC l (by omega)⟩
theorem DC:∀ l:List Jv,uH l<=8388608->wT l
 | [],_=>trivial
 | j::r,h=>by
  simp only [uH] at h;exact ⟨IX j (by omega),DC r (by omega)⟩
end
def DK (n:Nat) (j:Jv):Prop:=∀ (S:Nat->Prop) (v:Value) (w:World),(∀ g,S g->g<w.heap.size)->aG S w j v->PJ j->Calls Tryz.prog 84 #[v,.int .i64 n] w fun e w'=>e=.returned (.int .i64 (aw n j:Int))/\Fr NoB w w'
theorem EY (S:Nat->Prop) (n:Nat) (hn:n<=32) (k i:Int) (t:Bs) (l:List Jv) (ks:List Bs) (la ka:Option Addr) (lc kc:Nat) (w:World) (hS:∀ g,S g->g<w.heap.size)
  (DA:aT S w (.slice ka ks.length kc) ks.length (ks.map sV)) (cs:List Value) (hcs:aq S w l cs) (dd:aT S w (.slice la l.length lc) l.length cs)
  (eK:t.length<=4398046511104/\l.length<=big/\ks.length<=big/\(∀ s∈ks,s.length<=4398046511104)) (IY:wT l) (tX:n+1<=32->∀ x∈l,DK (n+1) x) :
  Calls Tryz.prog 84 #[jV k i t (.slice la l.length lc) (.slice ka ks.length kc),.int .i64 n] w fun e w'=>e=.returned (.int .i64 (aw n (.mk k i t l ks):Int))/\Fr NoB w w':=by
 have EZ:=eK.2.1;have hl:=eK.2.1;unfold big at hl;have f0:Fr NoB w (w.alloc (.cells #[.int .i64 k,.int .i64 i,.string ⟨t.toArray⟩,.slice la l.length lc,.slice ka ks.length kc] 31)):=(Fr.refl _ _).alloc _;have g0:=Blk.new w 31 #[.int .i64 k,.int .i64 i,.string ⟨t.toArray⟩,.slice la l.length lc,.slice ka ks.length kc];generalize hW:w.alloc (.cells #[.int .i64 k,.int .i64 i,.string ⟨t.toArray⟩,.slice la l.length lc,.slice ka ks.length kc] 31)=W at f0 g0;have HW:=hd' hW;have HB:Hid (∀ u,Fr NoB W u->u.cell? ⟨w.heap.size,3,none⟩=some (.slice la l.length lc)):=hd' (fun u f=>((f.blk g0 (fun e=>e)).cell 3).trans rfl);have c0:W.cell? ⟨w.heap.size,0,none⟩=some (.int .i64 k):=(g0.cell 0).trans rfl;have HQ:Hid (aw n (.mk k i t l ks)=if cH k && !(decide ((n:Int)<32)) then 91 else if aW k i t l.length ks then bI (n+1) l else 93):=hd' (by rw [aw]);generalize aw n (.mk k i t l ks)=q at HQ ⊢;have BB:=hd' tX;have Yk:=hd' (And.intro hcs dd);have HS:=hd' hS;have bu:Hid (∀ x∈l,PJ x):=hd' (wT.get l IY);have HF:Hid (∀ u,Fr NoB w u->Calls Tryz.prog 139 #[jV k i t (.slice la l.length lc) (.slice ka ks.length kc)] u fun e w'=>e=.returned (.bool (aW k i t l.length ks))/\Fr NoB u w'):=hd' (fun u f=>EX S k i t l.length ks la ka lc kc u (fun g hg=>Nat.lt_of_lt_of_le (hS g hg) f.size) EZ (DA.fr (fun g hg=>f.block g (hS g hg) (fun e=>e))) eK.2.2.1 ⟨eK.1,eK.2.2.2⟩);clear hW tX hcs dd hS IY DA eK;go_enter Tryz.func84,Tryz.ntmps84;go_upto_region 1 with (rw [HW.out]);go_cut [18] (fun v wx=>v=.bool (cH k && !(decide ((n:Int)<32)))/\W=wx)
 case first=>
  by_cases uI:(n:Int)<32
  ·have Ms:¬ (32:Int)<=n:=by omega
   cases h5:(k==5)
   ·cases h6:(k==6)
    ·go_wp2_with fail;go_meet;exact ⟨by simp [cH,h5,h6],rfl⟩
    ·go_wp2_with fail;go_meet;exact ⟨by simp [cH,h5,h6,uI],rfl⟩
   ·go_wp2_with fail;go_meet;exact ⟨by simp [cH,h5,uI],rfl⟩
  ·have Ms:(32:Int)<=n:=by omega
   cases h5:(k==5)
   ·cases h6:(k==6)
    ·go_wp2_with fail;go_meet;exact ⟨by simp [cH,h5,h6],rfl⟩
    ·go_wp2_with fail;go_meet;exact ⟨by simp [cH,h5,h6];omega,rfl⟩
   ·go_wp2_with fail;go_meet;exact ⟨by simp [cH,h5];omega,rfl⟩
 case rest=>
  obtain ⟨rfl,rfl⟩:=hcut;cases hA:(cH k && !(decide ((n:Int)<32))) with
  | true=>
   have e:q=91:=by rw [HQ.out,hA];rfl
   clear hA;go_wp2_with fail;go_ret;exact ⟨by rw [e];rfl,f0⟩
  | false=>
   have HA:=hd' hA;clear hA;cases QG:aW k i t l.length ks with
   | false=>
    (have e:q=93:=by rw [HQ.out,HA.out,QG];rfl);rw [QG] at HF;clear QG;go_wp2_with (first|(refine gI rfl _ rfl w.heap.size rfl g0 rfl ?_)|(go_at_call 139;((with_reducible refine (HF.out _ f0).mono ?_);rintro e w2 ⟨rfl,f2⟩)));go_ret;exact ⟨by rw [e];rfl,f0.trans f2⟩
   | true=>
    have Ud:Hid (q=bI (n+1) l):=hd' (by rw [HQ.out,HA.out,QG];rfl);have Yl:Hid (∀ x∈l,DK (n+1) x):=hd' (fun x UJ=>by
     refine BB.out ?_ x UJ;have e0:=HA.out;(have hne:¬ (l.length:Int)=0:=by intro h0;have:l=[]:=List.eq_nil_of_length_eq_zero (by omega);subst this;simp at UJ);have Ym:cH k=true:=by
      have:=QG;unfold aW at this;simp only [Bool.and_eq_true] at this;have:=this.1.1.1.1.2;rw [decide_eq_false hne,Bool.or_false] at this;exact this
     rw [Ym] at e0;(have:(n:Int)<32:=by simpa using e0);omega)
    rw [QG] at HF;clear QG HQ BB;go_wp2_with (first|(refine gI rfl _ rfl w.heap.size rfl g0 rfl ?_)|(go_at_call 139;((with_reducible refine (HF.out _ f0).mono ?_);rintro e w2 ⟨rfl,f2⟩)));go_loopw [5] (fun v wr=>∃ m:Nat,m<=l.length/\v=.int .i64 m/\Fr NoB W wr/\Hid (q=bI (n+1) (l.drop m))) (fun v _=>l.length - (intOf v).toNat)
    case atStart=>exact ⟨0,Nat.zero_le _,rfl,f2,Ud⟩
    case round=>
     obtain ⟨m,hm,rfl,hf,HD⟩:=hrel;have d3:=HB.out _ hf;by_cases hlt:m<l.length
     ·(have k1:(0:Int)<=m:=by omega);(have k2:(m:Int)<l.length:=by omega);obtain ⟨hcs,dd⟩:=Yk.out;obtain ⟨ga,oa,rfl,hcell⟩:=dd.Zw HS.out (f0.trans hf) (by omega);obtain ⟨v0,v1,v2,v3,v4,p0,p1,p2,p3,p4,hat⟩:=aq.get l cs m hlt hcs;have e0:wr.cell? ⟨ga,oa+m*5,none⟩=some v0:=hcell _ _ p0;have e1:wr.cell? ⟨ga,oa+m*5+1,none⟩=some v1:=hcell _ _ p1;have e2:wr.cell? ⟨ga,oa+m*5+2,none⟩=some v2:=hcell _ _ p2;have e3:wr.cell? ⟨ga,oa+m*5+3,none⟩=some v3:=hcell _ _ p3;have e4:wr.cell? ⟨ga,oa+m*5+4,none⟩=some v4:=hcell _ _ p4;have HC:Hid (Calls Tryz.prog 84 #[.agg #[v0,v1,v2,v3,v4],.int .i64 ((n:Int)+1)] wr fun e w'=>e=.returned (.int .i64 (aw (n+1) l[m]:Int))/\Fr NoB wr w'):=hd' (by
       have:=Yl.out l[m] (List.getElem_mem hlt) S _ wr (fun g hg=>Nat.lt_of_lt_of_le (HS.out g hg) (f0.trans hf).size) (aG.fr (fun g hg=>(f0.trans hf).block g (HS.out g hg) (fun e=>e)) _ _ hat) (bu.out _ (List.getElem_mem hlt));simpa using this)
      have nT:=wU (n+1) l m hlt;rw [<- HD.out] at nT;clear hcell p0 p1 p2 p3 p4 hat hcs dd HD Ud;generalize aw (n+1) l[m]=z at nT HC;by_cases hz:z=0
      ·subst hz;rw [if_pos rfl] at nT;have E0:=hd' nT;clear nT;go_wp2_with (go_at_call 84;((with_reducible refine HC.out.mono ?_);rintro e w2 ⟨rfl,f3⟩));go_roundw
       case rel=>exact ⟨m+1,by omega,by simp,hf.trans f3,E0⟩
       case measure=>simp [intOf];omega
      ·rw [if_neg hz] at nT;have E0:=hd' nT;(have hzb:((z:Int) != 0)=true:=by simp;omega);clear nT hz;go_wp2_with (go_at_call 84;((with_reducible refine HC.out.mono ?_);rintro e w2 ⟨rfl,f3⟩));go_ret;exact ⟨by rw [E0.out];rfl,(f0.trans hf).trans f3⟩
     ·obtain rfl:m=l.length:=by omega
      (have e:q=0:=by rw [HD.out,List.drop_length];simp [bI]);go_wp2_with fail;go_ret;exact ⟨by rw [e];rfl,f0.trans hf⟩
mutual
theorem IZ:∀ (j:Jv) (n:Nat),n<=32->DK n j
 | .mk k i t l ks,n,hn=>by
  intro S v w hS hat eK;simp only [aG] at hat;obtain ⟨lv,kv,rfl,h2,h3,h4,h5,h6,cs,h7,h8⟩:=hat;obtain ⟨la,lc,rfl⟩:=h8.sl;obtain ⟨ka,kc,rfl⟩:=h5.1.sl;simp only [PJ] at eK;exact EY S n hn k i t l ks la ka lc kc w hS h5.1 cs h7 h8 ⟨eK.1,eK.2.1,eK.2.2.1,eK.2.2.2.1⟩ eK.2.2.2.2 (fun Zy=>DD l (n+1) Zy)
theorem DD:∀ (l:List Jv) (n:Nat),n<=32->∀ x∈l,DK n x
 | [],_,_,x,hx=>absurd hx (by simp)
 | j::r,n,hn,x,hx=>by
  cases hx with
  | head=>exact IZ j n hn
  | tail _ h=>exact DD r n hn x h
end
theorem BD (S:Nat->Prop) (j:Jv) (v:Value) (w:World) (hS:∀ g,S g->g<w.heap.size) (hat:aG S w j v) (eK:PJ j) :
  Calls Tryz.prog 44 #[v] w fun e w'=>e=.returned (.int .i64 (aw 0 j:Int))/\Fr NoB w w':=by
 obtain ⟨v0,v1,v2,v3,v4,rfl,h1c⟩:∃ v0 v1 v2 v3 v4,v=.agg #[v0,v1,v2,v3,v4]/\∀ u∈[v0,v1,v2,v3,v4],u.oneCell'=true:=by
  cases j with
  | mk k i t l ks=>
   have h0:=hat;simp only [aG] at hat;obtain ⟨lv,kv,rfl,_⟩:=hat;exact ⟨_,_,_,_,_,rfl,h0.one⟩
 have f0:Fr NoB w (w.alloc (.cells #[v0,v1,v2,v3,v4] 31)):=(Fr.refl _ _).alloc _;have g0:=Blk.new w 31 #[v0,v1,v2,v3,v4];have HC:Hid (Calls Tryz.prog 84 #[.agg #[v0,v1,v2,v3,v4],.int .i64 0] (w.alloc (.cells #[v0,v1,v2,v3,v4] 31)) fun e w'=>e=.returned (.int .i64 (aw 0 j:Int))/\Fr NoB (w.alloc (.cells #[v0,v1,v2,v3,v4] 31)) w'):=hd' (IZ j 0 (by omega) S (.agg #[v0,v1,v2,v3,v4]) (w.alloc (.cells #[v0,v1,v2,v3,v4] 31)) (fun g hg=>Nat.lt_of_lt_of_le (hS g hg) f0.size) (aG.fr (fun g hg=>f0.block g (hS g hg) (fun e=>e)) j _ hat) eK);clear hS hat eK h1c;go_enter Tryz.func44,Tryz.ntmps44;go_wp2_with (first|(refine gI rfl _ rfl w.heap.size rfl g0 rfl ?_)|(go_at_call 84;((with_reducible refine HC.out.mono ?_);rintro e w2 ⟨rfl,f3⟩)));go_ret;exact ⟨rfl,f0.trans f3⟩
end Go.Proofs.YtbifjamddbpcjaaGreatDoor
