/- The document's sums (layer 2): Root, Primes. -/
import Derived.Laws.OwnMore
import Derived.Test.YtbifjamddbpcjaaGreatDoorDb
namespace Go.Proofs.YtbifjamddbpcjaaGreatDoor
set_option maxRecDepth 100000
set_option maxHeartbeats 25600000
open Go.RowKit
theorem zT (a b:List Nat) (va vb:Value) (w:World) (ha:dU .u64 w va a) (hb:dU .u64 w vb b) (DY:a.length<=1000000) (EZ:b.length<=1000000) :
  Calls Tryz.prog 159 #[va,vb] w fun e w'=>∃ v l,e=.returned v/\dU .u64 w' v l/\l.length=a.length+b.length/\ae l=ae a*ae b/\Fr NoB w w':=by
 obtain ⟨aa,ca,rfl⟩:=ha.sl;obtain ⟨ab,cb,rfl⟩:=hb.sl;have HA:=hd' ha;have HB:=hd' hb;obtain ⟨n,hn⟩:∃ n,n=a.length+b.length:=⟨_,rfl⟩;have mV:=run_make_row' (P:=Tryz.prog) 102 113 (.int .u64 0) 8 Tryz.underlying102 lM rfl .i64 .i64 n (by omega) (by omega);rw [oT] at mV;have s0:(a.length:Int)+(b.length:Int)=(n:Int):=by omega
 have HN:=hd' hn;have OJ:n<=2000000:=by omega
 clear ha hb hn;go_enter Tryz.func159,Tryz.ntmps159;go_upto_region 2 with fail;have f0:Fr NoB w (w.alloc (.cells (Array.replicate n (Value.int .u64 0)) 113)):=(Fr.refl _ _).alloc _;have b0:=Blk.new w 113 (Array.replicate n (Value.int .u64 0));generalize w.alloc (.cells (Array.replicate n (Value.int .u64 0)) 113)=W at *;rw [mI] at b0;clear mV s0;go_wp2_with fail;go_loopw [6] (fun v6 wr=>∃ (i:Nat) (l:List Nat),i<=a.length/\v6=.int .i64 i/\bl l/\Hid (l.length=n)/\Blk wr w.heap.size 113 (l.map (dV .u64)).toArray/\Hid (ae l=ae (a.take i)*ae b)/\Hid (∀ j,i+b.length<=j->l.getD j 0=0)/\Fr NoB w wr) (fun v6 _=>a.length - (intOf v6).toNat)
 case atStart=>exact ⟨0,List.replicate n 0,Nat.zero_le _,rfl,bl.ED n,hd' (by simp),b0,hd' (by rw [iA];simp [ae]),hd' (fun j _=>by
  rw [List.getD_eq_getElem?_getD,List.getElem?_replicate];split<;>rfl),f0⟩
 case round=>
  clear b0 f0;obtain ⟨i,l,hi,rfl,bX,HL,df,HV,HZ,hf⟩:=hrel;have k0:(0:Int)<=i:=by omega
  by_cases h1:i<a.length
  ·have k1:(i:Int)<a.length:=by omega
   obtain ⟨x,hx⟩:∃ x,x=a.getD i 0:=⟨_,rfl⟩;have ja:x<65536:=by rw [hx];exact HA.out.1.at i
   have HX:=hd' hx;clear hx;go_upto_region 6 with fail;go_wp2_with fail;go_loopw [7,8] (fun v7 v8 w2=>∃ (k c:Nat) (l2:List Nat),k<=b.length/\v8=.int .i64 k/\v7=dV .u64 c/\c<65536/\bl l2/\Hid (l2.length=n)/\Blk w2 w.heap.size 113 (l2.map (dV .u64)).toArray/\Hid (ae l2+c*65536 ^ (i+k)=ae (a.take i)*ae b+x*65536 ^ i*ae (b.take k))/\Hid (∀ j,i+b.length<=j->l2.getD j 0=0)/\Fr NoB w w2) (fun _ v8 _=>b.length - (intOf v8).toNat)
   case atStart=>exact ⟨0,0,l,Nat.zero_le _,rfl,rfl,by omega,bX,HL,df,hd' (by rw [HV.out];simp [ae]),HZ,hf⟩
   case round=>
    clear bX HL df HV HZ hf;obtain ⟨k,c,l2,hk,rfl,rfl,hc,bX,HL,df,HV,HZ,hf⟩:=hrel;(have k2:(0:Int)<=k:=by omega);by_cases h2:k<b.length
    ·(have k3:(k:Int)<b.length:=by omega);obtain ⟨y,hy⟩:∃ y,y=b.getD k 0:=⟨_,rfl⟩;(have pj:y<65536:=by rw [hy];exact HB.out.1.at k);obtain ⟨p,hp⟩:∃ p,p=i+k:=⟨_,rfl⟩;(have uf:p<l2.length:=by rw [HL.out,HN.out];omega);(have Oh:p<n:=by rw [<- HL.out];exact uf);obtain ⟨z,hz⟩:∃ z,z=l2.getD p 0:=⟨_,rfl⟩;(have hzl:z<65536:=by rw [hz];exact bX.at p);obtain ⟨m,hm⟩:∃ m,m=x*y:=⟨_,rfl⟩;(have uy:m<=4294836225:=by rw [hm];exact oU ja pj);obtain ⟨q,hq⟩:∃ q,q=c+(z+m):=⟨_,rfl⟩;obtain ⟨lo,cN⟩:∃ r,r=q % 65536:=⟨_,rfl⟩;obtain ⟨nM,lC⟩:∃ r,r=q / 65536:=⟨_,rfl⟩;have HST:Hid (ae (l2.set p lo)+nM*65536 ^ (i+(k+1))=ae (a.take i)*ae b+x*65536 ^ i*ae (b.take (k+1))):=hd' (by
      rw [cN,lC,hp];exact tz (by rw [<- hp];exact uf) HV.out (by rw [hq,hz,hm,hy,hp]))
     (have e0:(x:Int)*(y:Int)=(m:Int):=by rw [hm];simp);(have e1:bits .and .u64 (q:Int) 65535=(lo:Int):=by rw [qZ q (by omega),cN]);(have e2:(q:Int) / 65536=(nM:Int):=by omega);(have s1:(c:Int)+((z:Int)+(m:Int))=(q:Int):=by omega);(have s2:(i:Int)+(k:Int)=(p:Int):=by omega);(have k4:(0:Int)<=p:=by omega);(have k5:(p:Int)<n:=by omega);(have tv:lo<65536:=by omega);(have Da:nM<65536:=by omega);(have tZ:q<=4294967295:=by omega);obtain ⟨g,o,rfl,hlc,hcell⟩:=HA.out.at_ hf (by omega);(have d0:wr.cell? ⟨g,o+i,none⟩=some (dV .u64 x):=by rw [HX.out];exact hcell i h1);clear hcell;obtain ⟨g2,o2,rfl,AG,hcell⟩:=HB.out.at_ hf (by omega);(have d1:wr.cell? ⟨g2,o2+k,none⟩=some (dV .u64 y):=by rw [hy];exact hcell k h2);clear hcell;(have d2:wr.cell? ⟨w.heap.size,p,none⟩=some (dV .u64 z):=by rw [hz];exact iI df uf);have dz:=df.frozen p;have lF:=hd' (fun t:Nat=>sL (df.drewN t) p lo);have yu:=hd' (bX.set p lo tv);have qA:=hd' (fun t:Nat=>(hf.drewN t).setCell_new (p:=⟨w.heap.size,p,none⟩) (Nat.le_refl _) (dV .u64 lo));have jt:Hid ((l2.set p lo).length=n):=hd' (by rw [List.length_set];exact HL.out);have SY:Hid (∀ j,i+b.length<=j->(l2.set p lo).getD j 0=0):=hd' (fun j hj=>by rw [getD_set_ne (by omega)];exact HZ.out j hj);clear hy hp hz hm hq cN lC bX HL df HV HZ hf uf;go_wp2_with fail;go_quiet (fail);go_wp2_with fail;go_roundw
     case rel=>exact ⟨k+1,nM,_,by omega,by simp,rfl,Da,yu.out,jt,lF.out _,HST,SY,qA.out _⟩
     case measure=>(simp [intOf]<;>omega)
    ·obtain rfl:k=b.length:=by omega
     obtain ⟨p,hp⟩:∃ p,p=i+b.length:=⟨_,rfl⟩;(have uf:p<l2.length:=by rw [HL.out,HN.out];omega);(have Oh:p<n:=by rw [<- HL.out];exact uf);have HST:Hid (ae (l2.set p c)=ae (a.take (i+1))*ae b):=hd' (by
      rw [hp];exact wg (by rw [<- hp];exact uf) (HZ.out _ (Nat.le_refl _)) (by rw [<- HX.out];exact HV.out))
     (have s2:(i:Int)+(b.length:Int)=(p:Int):=by omega);(have k4:(0:Int)<=p:=by omega);(have k5:(p:Int)<n:=by omega);have d2:=iI df uf;have dz:=df.frozen p;have lF:=hd' (sL df p c);have yu:=hd' (bX.set p c hc);have qA:=hd' (hf.setCell_new (p:=⟨w.heap.size,p,none⟩) (Nat.le_refl _) (dV .u64 c));have jt:Hid ((l2.set p c).length=n):=hd' (by rw [List.length_set];exact HL.out);have SY:Hid (∀ j,i+1+b.length<=j->(l2.set p c).getD j 0=0):=hd' (fun j hj=>by rw [getD_set_ne (by omega)];exact HZ.out j (by omega));clear hp bX HL df HV HZ hf uf;go_wp2_with fail;go_roundw
     case rel=>exact ⟨i+1,_,by omega,by simp,yu.out,jt,lF.out,HST,SY,qA.out⟩
     case measure=>(simp [intOf]<;>omega)
  ·obtain rfl:i=a.length:=by omega
   have pJ:Hid (ae l=ae a*ae b):=hd' (by have:=HV.out;rwa [List.take_length] at this);have iB:l.length=n:=HL.out;have HNM:Hid (dU .u64 wr (.slice (some ⟨w.heap.size,0,none⟩) n n) l):=hd' (by
    have:=dU.iZ (c:=n) df bX (by omega) (by omega);rwa [iB] at this)
   clear df;go_wp2_with fail;go_ret;exact ⟨_,l,rfl,HNM.out,by rw [iB,HN.out],pJ.out,hf⟩
def lX (p often M:Nat):Nat:=if often<M then 0 else p*65536 ^ (often - M)
def qH (p often j:Nat):Nat:=if j=often then p else 0
theorem wi (p often j:Nat):lX p often j=qH p often j+65536*lX p often (j+1):=by
 unfold lX qH;rcases Nat.lt_trichotomy often j with h|h|h
 ·rw [if_pos h,if_neg (by omega),if_pos (by omega)]
 ·subst h;rw [if_neg (by omega),if_pos rfl,if_pos (by omega)];simp
 ·rw [if_neg (by omega),if_neg (by omega),if_neg (by omega),show often - j=(often - (j+1))+1 by omega,Nat.pow_succ,Nat.zero_add,<- Nat.mul_assoc,Nat.mul_comm]
theorem Lu {p often:Nat} (hp:p<65536) (j:Nat):∃ r,r<65536 ^ j/\p*65536 ^ often=r+65536 ^ j*lX p often j:=by
 unfold lX;by_cases h:often<j
 ·rw [if_pos h];refine ⟨p*65536 ^ often,?_,by omega⟩;have h1:p*65536 ^ often<65536*65536 ^ often:=Nat.mul_lt_mul_of_pos_right hp (Nat.pow_pos (by decide));have h2:65536*65536 ^ often<=65536 ^ j:=by
   rw [<- Nat.pow_succ'];exact Nat.pow_le_pow_right (by decide) h
  omega
 ·rw [if_neg h];refine ⟨0,Nat.pow_pos (by decide),?_⟩;rw [Nat.zero_add,<- Nat.mul_assoc,Nat.mul_comm (65536 ^ j) p,Nat.mul_assoc,<- Nat.pow_add,show j+(often - j)=often by omega]
theorem Lv {l:List Nat} (bX:bl l) {p often j:Nat} (hp:p<65536) (hj:j<l.length) (hd:ae (l.drop (j+1))=lX p often (j+1)) (hne:l.getD j 0≠qH p often j) :
  decide (qH p often j<l.getD j 0)=decide (p*65536 ^ often<ae l):=by
 have h1:=fY l j (by omega);have h2:ae (l.take j)<65536 ^ j:=by
  have:=cZ (bX.take j);rwa [List.length_take,Nat.min_eq_left (by omega)] at this
 obtain ⟨r,h3,h4⟩:=Lu (often:=often) hp j;have h5:ae (l.drop j)=l.getD j 0+65536*ae (l.drop (j+1)):=by
  rw [List.drop_eq_getElem_cons hj,ae,List.getD_eq_getElem?_getD,List.getElem?_eq_getElem hj];rfl
 have h6:=wi p often j;rw [hd] at h5;rw [h1,h4,Bool.eq_iff_iff,decide_eq_true_eq,decide_eq_true_eq];generalize lX p often (j+1)=t at *;generalize qH p often j=x at *;generalize l.getD j 0=y at *;generalize 65536 ^ j=P at *;rw [h5,h6];rcases Nat.lt_or_gt_of_ne hne with h|h
 ·constructor
  ·intro h7;omega
  ·intro h7;have:P*(y+65536*t)+P<=P*(x+65536*t):=by
    rw [<- Nat.mul_succ];exact Nat.mul_le_mul_left P (by omega)
   omega
 ·constructor
  ·intro _;have:P*(x+65536*t)+P<=P*(y+65536*t):=by
    rw [<- Nat.mul_succ];exact Nat.mul_le_mul_left P (by omega)
   omega
  ·intro _;exact h
theorem zU (l:List Nat) (v:Value) (p often:Nat) (w:World) (hv:dU .u64 w v l) (hp:p<65536) (ho:often<l.length) (hl:l.length<=1000) :
  Calls Tryz.prog 160 #[v,.int .u64 p,.int .i64 often] w fun e w'=>e=.returned (.bool (decide (p*65536 ^ often<ae l)))/\w'=w:=by
 obtain ⟨a,c,rfl⟩:=hv.sl;have HV:=hd' hv;have hlen:((l.length:Nat):Int)<=1000:=by omega
 obtain ⟨res,aH⟩:∃ r,r=decide (p*65536 ^ often<ae l):=⟨_,rfl⟩;rw [<- aH];have zO:=hd' aH;clear hv aH;go_enter Tryz.func160,Tryz.ntmps160;go_wp2_with fail;go_loopw [7] (fun v7 wr=>∃ (M:Nat) (z:Int),M<=l.length/\v7=.int .i64 z/\Hid (z=(M:Int) - 1)/\Hid (ae (l.drop M)=lX p often M)/\wr=w) (fun v7 _=>(intOf v7+1).toNat)
 case atStart=>exact ⟨l.length,_,Nat.le_refl _,rfl,hd' rfl,hd' (by rw [List.drop_length,lX,if_pos ho];rfl),rfl⟩
 case round=>
  obtain ⟨M,z,hM,rfl,HZ,HT,rfl⟩:=hrel;have hz:=HZ.out;by_cases h0:M=0
  ·subst h0;have k1:z<0:=by omega
   have HF:Hid (res=false):=hd' (by
    have h1:=HT.out;rw [List.drop_zero,lX,if_neg (by omega),Nat.sub_zero] at h1;rw [zO.out,h1];simp)
   clear hz;go_wp2_with fail;go_ret;exact ⟨by rw [HF.out];rfl,rfl⟩
  ·obtain ⟨j,hj⟩:∃ j,j=M - 1:=⟨_,rfl⟩;obtain rfl:z=(j:Int):=by omega
   obtain rfl:M=j+1:=by omega
   have qq:j<l.length:=by omega
   obtain ⟨g,o,rfl,hlc,hcell⟩:=HV.out.at_ (Fr.refl _ _) (by omega);have d0:=hcell j qq;have k0:(0:Int)<=j:=by omega
   have k1:(j:Int)<l.length:=by omega
   have HST:Hid (l.getD j 0≠qH p often j->decide (qH p often j<l.getD j 0)=res):=hd' (fun h=>by rw [zO.out];exact Lv HV.out.1 hp qq HT.out h);have Y4:Hid (l.getD j 0=qH p often j->ae (l.drop j)=lX p often j):=hd' (fun h=>by
    rw [List.drop_eq_getElem_cons qq,ae,wi,HT.out,<- h,List.getD_eq_getElem?_getD,List.getElem?_eq_getElem qq];rfl)
   have hy:=HV.out.1.at j;clear hcell hz hj HT zO;generalize l.getD j 0=y at *;by_cases Y5:j=often
   ·(have e0:qH p often j=p:=by unfold qH;rw [if_pos Y5]);rw [e0] at HST Y4;clear e0;subst Y5;by_cases he:y=p
    ·have EE:=hd' (Y4.out he);(have k3:(y:Int)=(p:Int):=by omega);clear k3;subst he;go_wp2_with fail;go_roundw
     case rel=>exact ⟨j,_,by omega,rfl,hd' rfl,EE,trivial⟩
     case measure=>(simp [intOf]<;>omega)
    ·have EE:=hd' (HST.out he);(have k3:¬ (y:Int)=(p:Int):=by omega);by_cases hg:p<y
     ·(have k4:(p:Int)<(y:Int):=by omega);go_wp2_with fail;go_ret;exact ⟨by rw [<- EE.out];simp [hg],rfl⟩
     ·(have k4:¬ (p:Int)<(y:Int):=by omega);go_wp2_with fail;go_ret;exact ⟨by rw [<- EE.out];simp [hg],rfl⟩
   ·(have e0:qH p often j=0:=by unfold qH;rw [if_neg Y5]);rw [e0] at HST Y4;(have k2:¬ (j:Int)=(often:Int):=by omega);by_cases he:y=0
    ·have EE:=hd' (Y4.out he);subst he;clear Y5;go_wp2_with fail;go_roundw
     case rel=>exact ⟨j,_,by omega,rfl,hd' rfl,EE,trivial⟩
     case measure=>(simp [intOf]<;>omega)
    ·have EE:=hd' (HST.out he);(have k3:¬ (y:Int)=0:=by omega);(have k4:(0:Int)<(y:Int):=by omega);go_wp2_with fail;go_ret;exact ⟨by rw [<- EE.out];first|(simp;done)|(simp;omega),rfl⟩
end Go.Proofs.YtbifjamddbpcjaaGreatDoor
namespace Go.Proofs.YtbifjamddbpcjaaGreatDoor
set_option maxRecDepth 100000
set_option maxHeartbeats 25600000
open Go.RowKit
def gn (T n:Nat):Nat->Nat
 | 0=>0
 | c+1=>if T<(gn T n c+2 ^ (40 - c)) ^ n then gn T n c else gn T n c+2 ^ (40 - c)
def nh (p n:Nat):Nat:=gn (p*65536 ^ (2*n)) n 41
theorem zN (T n:Nat):∀ c,c<=41->∃ y,gn T n c=2 ^ (41 - c)*y/\y+1<=2 ^ c
 | 0,_=>⟨0,by simp [gn],by simp⟩
 | c+1,h=>by
  obtain ⟨y,h1,h2⟩:=zN T n c (by omega);have e:2 ^ (41 - c)=2*2 ^ (40 - c):=by rw [<- Nat.pow_succ'];congr 1;omega
  have e2:2 ^ (41 - (c+1))=2 ^ (40 - c):=by congr 1;omega
  have e3:2 ^ (c+1)=2*2 ^ c:=Nat.pow_succ';rw [gn,h1,e,e2];split
  ·exact ⟨2*y,by rw [Nat.mul_assoc,Nat.mul_comm 2 y,Nat.mul_comm 2 (2 ^ (40 - c)*y),Nat.mul_assoc],by omega⟩
  ·exact ⟨2*y+1,by rw [Nat.mul_add,Nat.mul_one,Nat.mul_assoc 2,Nat.mul_comm 2 (2 ^ (40 - c)*y),Nat.mul_assoc,Nat.mul_comm y 2],by omega⟩
theorem Cu {l:List Nat} (bX:bl l) {k q r y:Nat} (hk:k=16*q+r) (hr:r<16) (hv:ae l=2 ^ (k+1)*y):l.getD q 0+2 ^ r<65536:=by
 have h1:=sH bX q;have e:2 ^ (k+1)=65536 ^ q*2 ^ (r+1):=by
  rw [show (65536:Nat)=2 ^ 16 from rfl,<- Nat.pow_mul,<- Nat.pow_add];congr 1;omega
 have hp:0<65536 ^ q:=Nat.pow_pos (by decide);rw [hv,e,Nat.mul_assoc,Nat.mul_div_cancel_left _ hp] at h1;have h2:l.getD q 0<65536:=bX.at q;generalize l.getD q 0=d at *;have h3:d % 2 ^ (r+1)=0:=by
  rw [<- h1,show (65536:Nat)=2 ^ (r+1)*2 ^ (15 - r) by rw [<- Nat.pow_add];show 2 ^ 16=_;congr 1;omega,Nat.mod_mul_right_mod];exact Nat.mul_mod_right _ _
 rcases (show r=0\/r=1\/r=2\/r=3\/r=4\/r=5\/r=6\/r=7\/r=8\/r=9\/r=10\/r=11\/r=12\/r=13\/r=14\/r=15 by omega) with rfl|rfl|rfl|rfl|rfl|rfl|rfl|rfl|rfl|rfl|rfl|rfl|rfl|rfl|rfl|rfl
 all_goals (simp only [Nat.reduceAdd,Nat.reducePow] at h3 ⊢;omega)
theorem Kc {l:List Nat} {k q r:Nat} (hk:k=16*q+r) (hq:q<l.length):ae (l.set q (l.getD q 0+2 ^ r))=ae l+2 ^ k:=by
 have h:=ki l q (l.getD q 0+2 ^ r) hq;rw [Nat.add_mul] at h;have e:2 ^ r*65536 ^ q=2 ^ k:=by
  rw [show (65536:Nat)=2 ^ 16 from rfl,<- Nat.pow_mul,<- Nat.pow_add];congr 1;omega
 omega
theorem Oa {l:List Nat} (bX:bl l) (hl:l.length=5):ae l % 4294967296=l.getD 1 0*65536+l.getD 0 0:=by
 obtain ⟨a,b,c,d,e,rfl⟩:∃ a b c d e,l=[a,b,c,d,e]:=by
  match l,hl with
  | [a,b,c,d,e],_=>exact ⟨a,b,c,d,e,rfl⟩
 have h0:=bX a (by simp);have h1:=bX b (by simp);simp only [ae,List.getD_cons_zero,List.getD_cons_succ];omega
theorem qN (a b:Nat) (ha:a<18446744073709551616) (hb:b<18446744073709551616):bits .or .u64 (a:Int) (b:Int)=((a ||| b:Nat):Int):=by
 have hx:a ||| b<2 ^ 64:=Nat.or_lt_two_pow (by omega) (by omega)
 have h1:(BitVec.ofInt 64 (a:Int)).toNat=a:=by
  rw [BitVec.ofInt_natCast,BitVec.toNat_ofNat];exact Nat.mod_eq_of_lt (by omega)
 have h2:(BitVec.ofInt 64 (b:Int)).toNat=b:=by
  rw [BitVec.ofInt_natCast,BitVec.toNat_ofNat];exact Nat.mod_eq_of_lt (by omega)
 show IntKind.u64.wrap ((BitVec.ofInt 64 (a:Int) ||| BitVec.ofInt 64 (b:Int)).toNat:Int)=_;rw [BitVec.toNat_or,h1,h2,IntKind.wrap_u64];omega
theorem Kd (a b:Nat) (ha:a<65536) (hb:b<65536):bits .or .u64 ((a:Int)*65536) (b:Int)=((a*65536+b:Nat):Int):=by
 have e:(a:Int)*65536=((a*65536:Nat):Int):=by simp
 rw [e,qN (a*65536) b (by omega) (by omega)];have:=Nat.shiftLeft_add_eq_or_of_lt (i:=16) (b:=b) hb a;rw [Nat.shiftLeft_eq] at this;rw [<- this]
theorem Gd (b:Nat) (hb:b<65536):bits .or .u64 0 (b:Int)=(b:Int):=by
 have:=qN 0 b (by decide) (by omega);rw [Nat.zero_or] at this;exact this
theorem sJ (p n:Nat) (w:World) (hp:p<512) (hn:n=2\/n=3) :
  Calls Tryz.prog 112 #[.int .u64 p,.int .i64 n,.int .i64 32] w fun e w'=>e=.returned (dV .u64 (nh p n % 4294967296))/\Fr NoB w w':=by
 have mV:∀ u:World,(Instr.makeSlice 102 (.int .i64 5) (.int .i64 5)).run Tryz.prog u=.ok (.slice (some ⟨u.heap.size,0,none⟩) 5 5) (u.alloc (.cells (([0,0,0,0,0]:List Nat).map (dV .u64)).toArray 113)):=fun _=>by kernel_rfl
 obtain ⟨res,aH⟩:∃ r,r=nh p n % 4294967296:=⟨_,rfl⟩;rw [<- aH];obtain ⟨T,hT⟩:∃ T,T=p*65536 ^ (2*n):=⟨_,rfl⟩;have zO:Hid (res=gn T n 41 % 4294967296):=hd' (by rw [aH,hT];rfl);obtain ⟨tn,htn⟩:∃ tn,tn=2*n:=⟨_,rfl⟩;rw [<- htn] at hT;have HT:=hd' hT;have e32:(n:Int)*32=((n*32:Nat):Int):=by simp
 have etd:((n*32:Nat):Int).tdiv 16=(tn:Int):=by rw [Int.tdiv_eq_ediv_of_nonneg (by omega)];omega
 have eed:((n*32:Nat):Int) / 16=(tn:Int):=by omega
 have Ms:n<=3:=by omega
 have htb:tn<=6:=by omega
 have HTN:=hd' htn;generalize n*32=n32 at *;have aie:n32<=96:=by have h:=etd;have:=Int.tdiv_eq_ediv_of_nonneg (a:=(n32:Int)) (b:=16) (by omega);omega
 clear aH hT htn hn;go_enter Tryz.func112,Tryz.ntmps112;go_upto_region 2 with fail;have f0:Fr NoB w (w.alloc (.cells (([0,0,0,0,0]:List Nat).map (dV .u64)).toArray 113)):=(Fr.refl _ _).alloc _;have b0:=Blk.new w 113 (([0,0,0,0,0]:List Nat).map (dV .u64)).toArray;have hW:w.alloc (.cells #[dV .u64 0,dV .u64 0,dV .u64 0,dV .u64 0,dV .u64 0] 113)=w.alloc (.cells (([0,0,0,0,0]:List Nat).map (dV .u64)).toArray 113):=rfl;rw [hW];clear hW;generalize w.alloc (.cells (([0,0,0,0,0]:List Nat).map (dV .u64)).toArray 113)=W at *;clear mV;go_wp2_with fail;go_loopw [8] (fun v8 wr=>∃ (c:Nat) (z:Int) (l:List Nat),c<=41/\v8=.int .i64 z/\Hid (z=40 - (c:Int))/\bl l/\Hid (l.length=5)/\Blk wr w.heap.size 113 (l.map (dV .u64)).toArray/\Hid (ae l=gn T n c)/\Fr NoB w wr) (fun v8 _=>(intOf v8+1).toNat)
 case atStart=>exact ⟨0,_,[0,0,0,0,0],Nat.zero_le _,rfl,hd' (by simp),(fun x hx=>by simp at hx;omega),hd' rfl,b0,hd' rfl,f0⟩
 case round=>
  clear b0 f0;obtain ⟨c,z,l,hc,rfl,HZ,bX,HL,df,HV,hf⟩:=hrel;obtain ⟨w3,hw3⟩:∃ x,x=wr:=⟨_,rfl⟩;subst hw3;have hz:=HZ.out;by_cases V0:c=41
  ·subst V0;have k1:z<0:=by omega
   have MK:0<l.length:=by rw [HL.out];decide
   have MJ:1<l.length:=by rw [HL.out];decide
   have d0:=iI df MK;have d1:=iI df MJ;have h0:=bX.at 0;have h1:=bX.at 1;have pJ:Hid (res=l.getD 1 0*65536+l.getD 0 0):=hd' (by rw [zO.out,<- HV.out];exact Oa bX HL.out);clear hz HV zO bX HL df MK MJ;generalize l.getD 0 0=y0 at *;generalize l.getD 1 0=y1 at *;have o1:=Gd y1 h1;have o0:=Kd y1 y0 h1 h0;have qA:Hid ((res:Int)=(y1:Int)*65536+(y0:Int)):=hd' (by rw [pJ.out];simp);go_wp2_with fail;refine wp_loop_rounds 3 ?_;rw [rounds_succ];go_wp2_with fail;rw [rounds_succ];go_wp2_with fail;rw [rounds_succ];go_wp2_with fail;go_ret;exact ⟨by show _=Ending.returned (.int .u64 (res:Int));rw [qA.out];rfl,hf⟩
  ·obtain ⟨k,hk⟩:∃ k,k=40 - c:=⟨_,rfl⟩;obtain rfl:z=(k:Int):=by omega
   obtain ⟨q,hq⟩:∃ q,q=k / 16:=⟨_,rfl⟩;obtain ⟨r,hr⟩:∃ r,r=k % 16:=⟨_,rfl⟩;have RM:k=16*q+r:=by omega
   have V1:r<16:=by omega
   have hq5:q<l.length:=by rw [HL.out];omega
   have HK:=hd' hk;have hroom:l.getD q 0+2 ^ r<65536:=by
    obtain ⟨y,h1,_⟩:=zN T n c hc;exact Cu bX RM V1 (by rw [HV.out,h1];congr 2;omega)
   have RN:Hid (ae (l.set q (l.getD q 0+2 ^ r))=gn T n c+2 ^ k):=hd' (by rw [Kc RM hq5,HV.out]);have e1:(k:Int).tdiv 16=(q:Int):=by rw [Int.tdiv_eq_ediv_of_nonneg (by omega)];omega
   have e2:(k:Int).tmod 16=(r:Int):=by rw [Int.tmod_eq_emod_of_nonneg (by omega)];omega
   have e3:(k:Int) / 16=(q:Int):=by omega
   have e4:(k:Int) % 16=(r:Int):=by omega
   have k0:(0:Int)<=k:=by omega
   have k5:(0:Int)<=q:=by omega
   have k6:(q:Int)<5:=by have:=HL.out;omega
   have d0:=iI df hq5;have dz:=df.frozen q;have rC:=bX.at q;have qQ:=hd' df;have HF:=hd' hf;have Iy:=hd' bX;have zQ:Hid (gn T n (c+1)=if T<(gn T n c+2 ^ k) ^ n then gn T n c else gn T n c+2 ^ k):=hd' (by rw [gn,hk]);have uL:Hid ((l.set q (l.getD q 0+2 ^ r)).length=5):=hd' (by rw [List.length_set];exact HL.out);have Uv:Hid (bl (l.set q (l.getD q 0+2 ^ r))):=hd' (bX.set q _ hroom);have zR:Hid ((l.set q (l.getD q 0+2 ^ r)).set q (l.getD q 0)=l):=hd' (by
    rw [List.set_set];apply List.ext_getElem (by simp);intro i h1 h2;rw [List.getElem_set];split
    ·subst_vars;rw [List.getD_eq_getElem?_getD,List.getElem?_eq_getElem h2];rfl
    ·rfl)
   have aif:c+1<=41:=by omega
   have HVL:=hd' HV.out;have aaO:=hd' bX;clear hz hk hq hr bX df hf HV V0;obtain ⟨x0,V3⟩:∃ x0,x0=l.getD q 0:=⟨_,rfl⟩;rw [<- V3] at d0 rC hroom RN uL Uv zR;obtain ⟨l1,MJ⟩:∃ l1,l1=l.set q (x0+2 ^ r):=⟨_,rfl⟩;rw [<- MJ] at RN uL Uv zR;have Ob:=hd' MJ;clear V3 MJ RM;go_upto_region 5 with fail;go_cut [] (fun wx=>Blk wx w.heap.size 113 (l1.map (dV .u64)).toArray/\Fr NoB w wx)
   case first=>
    have V4:Hid (∀ u,Fr NoB w3 u->Blk (u.setCell ⟨w.heap.size,q,none⟩ (dV .u64 (x0+2 ^ r))) w.heap.size 113 (l1.map (dV .u64)).toArray/\Fr NoB w (u.setCell ⟨w.heap.size,q,none⟩ (dV .u64 (x0+2 ^ r)))):=hd' (fun u f=>⟨by rw [Ob.out];exact sL (f.blk qQ.out (fun e=>e)) q _,(HF.out.trans f).setCell_new (p:=⟨w.heap.size,q,none⟩) (Nat.le_refl _) _⟩);clear zO HT RN uL Uv zR Ob zQ qQ HF Iy;rcases (show r=0\/r=1\/r=2\/r=3\/r=4\/r=5\/r=6\/r=7\/r=8\/r=9\/r=10\/r=11\/r=12\/r=13\/r=14\/r=15 by omega) with rfl|rfl|rfl|rfl|rfl|rfl|rfl|rfl|rfl|rfl|rfl|rfl|rfl|rfl|rfl|rfl
    all_goals
     simp only [Nat.reducePow] at V4 hroom;go_wp2_with fail;go_region;all_goals
      go_wp2_with fail;go_meet;have h9:=V4.out _ (Fr.refl NoB w3);exact ⟨h9.1.drew,h9.2.drew⟩
   case rest=>
   obtain ⟨lz,qM⟩:=hcut
   rename_i wc _ _
   clear d0 dz qQ HF Iy;obtain ⟨X1,hX1⟩:∃ X1,X1=gn T n c+2 ^ k:=⟨_,rfl⟩;rw [<- hX1] at RN zQ;have Mu:=hd' hX1;clear hX1;have xg:Hid (∀ u,Fr NoB wc u->dU .u64 u (.slice (some ⟨w.heap.size,0,none⟩) 5 5) l1):=hd' (fun u f=>by
    have:=dU.iZ (c:=5) (f.blk lz (fun e=>e)) Uv.out (by rw [uL.out];decide) (by rw [uL.out];exact Nat.le_refl _);rwa [uL.out] at this)
   have og:=hd' lz;have Qa:=hd' qM;clear lz qM;have n0:dU .u64 (wc.alloc (.cells #[.int .u64 1] 113)) (.slice (some ⟨wc.heap.size,0,none⟩) 1 1) [1]:=
    dU.iZ (l:=[1]) (c:=1) (Blk.new wc 113 #[.int .u64 1]) (fun x hx=>by simp at hx;omega) (by simp) (Nat.le_refl _)
   have g0:Fr NoB wc (wc.alloc (.cells #[.int .u64 1] 113)):=(Fr.refl _ _).alloc _;go_upto_region 7 with fail;generalize wc.alloc (.cells #[.int .u64 1] 113)=wd at *;go_wp2_with fail;go_loopw [9,10] (fun v9 v10 wr=>∃ (i:Nat) (la:List Nat),i<=n/\v10=.int .i64 i/\dU .u64 wr v9 la/\Hid (la.length=1+5*i)/\Hid (ae la=X1 ^ i)/\Fr NoB wc wr) (fun _ v10 _=>n - (intOf v10).toNat)
   case atStart=>exact ⟨0,[1],Nat.zero_le _,rfl,n0,hd' rfl,hd' rfl,g0⟩
   case round=>
    clear n0 g0;obtain ⟨i,la,hi,rfl,Oc,YN,HVA,hg⟩:=hrel;(have j0:(0:Int)<=i:=by omega);by_cases Ke:i<n
    ·(have j1:(i:Int)<n:=by omega);have HTM:=hd' (zT la l1 _ _ _ Oc (xg.out _ hg) (by rw [YN.out];omega) (by rw [uL.out];decide));clear Oc;go_wp2_with (go_at_call 159;((with_reducible refine HTM.out.mono ?_);rintro er w5 ⟨v5,l5,rfl,n5,hl5,mO,f5⟩));go_roundw
     case rel=>exact ⟨i+1,l5,by omega,by simp,n5,hd' (by rw [hl5,YN.out,uL.out];omega),hd' (by rw [mO,HVA.out,RN.out,Nat.pow_succ]),hg.trans f5⟩
     case measure=>(simp [intOf]<;>omega)
    ·obtain rfl:i=n:=by omega
     have aaR:=HTN.out;have aaS:=YN.out;have Qb:=hd' (zU la _ p tn _ Oc (by omega) (by omega) (by omega));have ML:Hid (p*65536 ^ tn=T):=hd' HT.out.symm;rw [ML.out,HVA.out] at Qb;clear Oc aaR aaS Ke;by_cases hab:T<X1 ^ i
     ·rw [decide_eq_true hab] at Qb;have E9:Hid (gn T i (c+1)=gn T i c):=hd' (by rw [zQ.out,if_pos hab]);have Ge:=hg.blk og.out (fun e=>e);have xj:=Qa.out.trans hg;have d0:=iI Ge (show q<l1.length by rw [uL.out];omega);(have mN:l1.getD q 0=x0+2 ^ r:=by rw [Ob.out,fQ hq5]);rw [mN] at d0;have dz:=Ge.frozen q;have V4:Hid (Blk (wr.setCell ⟨w.heap.size,q,none⟩ (dV .u64 x0)) w.heap.size 113 (l.map (dV .u64)).toArray/\Fr NoB w (wr.setCell ⟨w.heap.size,q,none⟩ (dV .u64 x0))):=hd' ⟨by have:=sL Ge q x0;rwa [zR.out] at this,xj.setCell_new (p:=⟨w.heap.size,q,none⟩) (Nat.le_refl _) _⟩;clear mN hab hg Ge xj;go_upto_region 12 with (go_at_call 160;((with_reducible refine Qb.out.mono ?_);rintro er w5 ⟨rfl,rfl⟩));clear zO HT RN uL Uv zR Ob zQ Qb ML HVA YN og Qa xg Mu HTN;rcases (show r=0\/r=1\/r=2\/r=3\/r=4\/r=5\/r=6\/r=7\/r=8\/r=9\/r=10\/r=11\/r=12\/r=13\/r=14\/r=15 by omega) with rfl|rfl|rfl|rfl|rfl|rfl|rfl|rfl|rfl|rfl|rfl|rfl|rfl|rfl|rfl|rfl
      all_goals
       simp only [Nat.reducePow] at hroom d0;go_wp2_with fail;go_region;all_goals
        go_wp2_with fail;go_roundw
        case rel=>exact ⟨c+1,_,l,by omega,rfl,hd' (by have:=HK.out;omega),aaO.out,HL,V4.out.1.drew,hd' (by rw [E9.out];exact HVL.out),V4.out.2.drew⟩
        case measure=>(simp [intOf]<;>omega)
     ·rw [decide_eq_false hab] at Qb;have E9:Hid (gn T i (c+1)=X1):=hd' (by rw [zQ.out,if_neg hab]);have Ge:=hg.blk og.out (fun e=>e);have xj:=Qa.out.trans hg;clear hab hg;go_wp2_with (go_at_call 160;((with_reducible refine Qb.out.mono ?_);rintro er w5 ⟨rfl,rfl⟩));go_roundw
      case rel=>exact ⟨c+1,_,l1,by omega,rfl,hd' (by have:=HK.out;omega),Uv.out,uL,Ge,hd' (by rw [E9.out,RN.out,Mu.out]),xj⟩
      case measure=>(simp [intOf]<;>omega)
end Go.Proofs.YtbifjamddbpcjaaGreatDoor
