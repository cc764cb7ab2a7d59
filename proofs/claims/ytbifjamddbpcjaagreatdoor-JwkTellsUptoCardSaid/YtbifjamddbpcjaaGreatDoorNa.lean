/- The document's base64url, plainly: bits of bytes, six and eight at a time. No program. -/
import Derived.Test.YtbifjamddbpcjaaGreatDoorEa
namespace Go.Proofs.YtbifjamddbpcjaaGreatDoor
open Go.RowKit
def bM (s:Bs) (k:Nat):Nat:=if 8*s.length<=k then 0 else (s.getD (k / 8) 0).toNat / 2 ^ (7 - k % 8) % 2
def cR (f:Nat->Nat) (k:Nat):Nat->Nat
 | 0=>0
 | j+1=>2*cR f k j+f (k+j)
theorem qw (f g:Nat->Nat) (k d:Nat) (h:∀ i,f (i+d)=g i):∀ j,cR f (k+d) j=cR g k j
 | 0=>rfl
 | j+1=>by rw [cR,cR,qw f g k d h j,show k+d+j=(k+j)+d by omega,h]
theorem AU (f:Nat->Nat) (k:Nat) (h:∀ i,f i<2):∀ j,cR f k j<2 ^ j
 | 0=>by simp [cR]
 | j+1=>by
  have h1:=AU f k h j;have h2:=h (k+j);rw [cR,Nat.pow_succ];omega
theorem AV (s:Bs) (k:Nat):bM s k<2:=by
 unfold bM;split
 ·decide
 ·exact Nat.mod_lt _ (by decide)
def ky (s:Bs):Bs:=(List.range ((8*s.length+5) / 6)).map (fun i=>dm (cR (bM s) (6*i) 6))
theorem Pl (a b c:UInt8) (r:Bs) (i:Nat):bM (a::b::c::r) (i+24)=bM r i:=by
 unfold bM;have e1:(i+24) / 8=i / 8+3:=by omega
 have e2:(i+24) % 8=i % 8:=by omega
 rw [e1,e2];simp only [List.length_cons];by_cases h:8*r.length<=i
 ·rw [if_pos h,if_pos (by omega)]
 ·rw [if_neg h,if_neg (by omega)];simp
theorem Pm (n:Nat) (f:Nat->UInt8):(List.range (n+4)).map f=f 0::f 1::f 2::f 3::(List.range n).map (fun i=>f (i+4)):=by
 rw [Nat.add_comm n 4,List.range_add,List.map_append,List.map_map];have e:((f ∘ fun x=>4+x):Nat->UInt8)=fun i=>f (i+4):=by funext i;simp [Nat.add_comm]
 rw [e];rfl
theorem LV (a:UInt8) (r:Bs):cR (bM (a::r)) 0 6=a.toNat / 4:=by
 have ha:=a.toNat_lt;simp only [cR,bM,List.length_cons];rw [if_neg (by omega),if_neg (by omega),if_neg (by omega),if_neg (by omega),if_neg (by omega),if_neg (by omega)];simp only [Nat.reduceDiv,Nat.reduceMod,Nat.reduceSub,Nat.reducePow,List.getD_cons_zero,Nat.zero_add,Nat.mul_zero];omega
theorem Qu (a b:UInt8) (r:Bs):cR (bM (a::b::r)) 6 6=(a.toNat*16+b.toNat / 16) % 64:=by
 have ha:=a.toNat_lt;have hb:=b.toNat_lt;simp only [cR,bM,List.length_cons];rw [if_neg (by omega),if_neg (by omega),if_neg (by omega),if_neg (by omega),if_neg (by omega),if_neg (by omega)];simp only [Nat.reduceAdd,Nat.reduceDiv,Nat.reduceMod,Nat.reduceSub,Nat.reducePow,List.getD_cons_zero,List.getD_cons_succ,Nat.zero_add,Nat.mul_zero];omega
theorem Tw (a b c:UInt8) (r:Bs):cR (bM (a::b::c::r)) 12 6=(b.toNat*4+c.toNat / 64) % 64:=by
 have ha:=c.toNat_lt;have hb:=b.toNat_lt;simp only [cR,bM,List.length_cons];rw [if_neg (by omega),if_neg (by omega),if_neg (by omega),if_neg (by omega),if_neg (by omega),if_neg (by omega)];simp only [Nat.reduceAdd,Nat.reduceDiv,Nat.reduceMod,Nat.reduceSub,Nat.reducePow,List.getD_cons_zero,List.getD_cons_succ,Nat.zero_add,Nat.mul_zero];omega
theorem Tx (a b c:UInt8) (r:Bs):cR (bM (a::b::c::r)) 18 6=c.toNat % 64:=by
 have ha:=c.toNat_lt;simp only [cR,bM,List.length_cons];rw [if_neg (by omega),if_neg (by omega),if_neg (by omega),if_neg (by omega),if_neg (by omega),if_neg (by omega)];simp only [Nat.reduceAdd,Nat.reduceDiv,Nat.reduceMod,Nat.reduceSub,Nat.reducePow,List.getD_cons_zero,List.getD_cons_succ,Nat.zero_add,Nat.mul_zero];omega
theorem Ty (a:UInt8):cR (bM [a]) 6 6=a.toNat*16 % 64:=by
 have ha:=a.toNat_lt;simp [cR,bM];omega
theorem Tz (a b:UInt8):cR (bM [a,b]) 12 6=b.toNat*4 % 64:=by
 have ha:=b.toNat_lt;simp [cR,bM];omega
theorem EL:∀ s:Bs,ky s=aX s
 | a::b::c::r=>by
  have hn:(8*(a::b::c::r).length+5) / 6=(8*r.length+5) / 6+4:=by simp only [List.length_cons];omega
  rw [aX,<- EL r,ky,hn,Pm,LV,Qu,Tw,Tx,ky]
  congr 4
  refine List.map_congr_left (fun i _ => ?_);rw [show 6*(i+4)=6*i+24 by omega,qw _ (bM r) (6*i) 24 (Pl a b c r)]
 | [a,b]=>by
  rw [ky,show (8*[a,b].length+5) / 6=3 by simp,aX];simp only [show List.range 3=[0,1,2] from rfl,List.map_cons,List.map_nil];rw [LV,Qu,Tz]
 | [a]=>by
  rw [ky,show (8*[a].length+5) / 6=2 by simp,aX];simp only [show List.range 2=[0,1] from rfl,List.map_cons,List.map_nil];rw [LV,Ty]
 | []=>rfl
theorem tJ (s:Bs):(ky s).length=(8*s.length+5) / 6:=by simp [ky]
theorem Ih (s:Bs) (i:Nat) (h:i<(8*s.length+5) / 6):(ky s).take (i+1)=(ky s).take i++[dm (cR (bM s) (6*i) 6)]:=by
 have h2:i<(ky s).length:=by rw [tJ];exact h
 rw [List.take_succ_eq_append_getElem h2]
 congr 2
 simp [ky]
def ae:List Nat->Nat
 | []=>0
 | x::r=>x+65536*ae r
def bl (l:List Nat):Prop:=∀ x∈l,x<65536
theorem bl.head {x:Nat} {r:List Nat} (h:bl (x::r)):x<65536:=h x (by simp)
theorem bl.tail {x:Nat} {r:List Nat} (h:bl (x::r)):bl r:=fun y hy=>h y (by simp [hy])
theorem bl.set {l:List Nat} (h:bl l) (i x:Nat) (hx:x<65536):bl (l.set i x):=by
 intro y hy;rcases List.mem_or_eq_of_mem_set hy with h1|rfl
 ·exact h y h1
 ·exact hx
theorem bl.at {l:List Nat} (h:bl l) (i:Nat):l.getD i 0<65536:=by
 rw [List.getD_eq_getElem?_getD];by_cases hi:i<l.length
 ·rw [List.getElem?_eq_getElem hi];exact h _ (List.getElem_mem hi)
 ·rw [List.getElem?_eq_none (by omega)];decide
theorem bl.snoc {l:List Nat} (h:bl l) {x:Nat} (hx:x<65536):bl (l++[x]):=fun y hy=>by
 rcases List.mem_append.1 hy with h1|h1
 ·exact h y h1
 ·simp at h1;omega
theorem bl.take {l:List Nat} (h:bl l) (k:Nat):bl (l.take k):=fun x hx=>h x (List.mem_of_mem_take hx)
theorem bl.drop {l:List Nat} (h:bl l) (k:Nat):bl (l.drop k):=fun x hx=>h x (List.mem_of_mem_drop hx)
theorem bl.ED (n:Nat):bl (List.replicate n 0):=fun x hx=>by rw [List.eq_of_mem_replicate hx];decide
theorem iA:∀ n,ae (List.replicate n 0)=0
 | 0=>rfl
 | n+1=>by rw [List.replicate_succ,ae,iA n]
theorem pW:∀ (a b:List Nat),ae (a++b)=ae a+65536 ^ a.length*ae b
 | [],b=>by simp [ae]
 | x::r,b=>by
  rw [List.cons_append,ae,ae,pW r b,List.length_cons,Nat.pow_succ,Nat.mul_add,Nat.mul_comm (65536 ^ r.length) 65536,Nat.mul_assoc,Nat.add_assoc]
theorem i6 (a:List Nat) (x:Nat):ae (a++[x])=ae a+x*65536 ^ a.length:=by
 rw [pW,ae,ae,Nat.mul_zero,Nat.add_zero,Nat.mul_comm]
theorem cZ:∀ {a:List Nat},bl a->ae a<65536 ^ a.length
 | [],_=>by simp [ae]
 | x::r,h=>by
  have h1:=h.head;have h2:=cZ h.tail;rw [ae,List.length_cons,Nat.pow_succ];omega
theorem fY (l:List Nat) (k:Nat) (h:k<=l.length):ae l=ae (l.take k)+65536 ^ k*ae (l.drop k):=by
 have:=pW (l.take k) (l.drop k);rwa [List.take_append_drop,List.length_take,Nat.min_eq_left h] at this
theorem fH (l:List Nat) (i:Nat) (h:i<l.length):ae (l.take (i+1))=ae (l.take i)+l.getD i 0*65536 ^ i:=by
 rw [List.take_succ_eq_append_getElem h,i6,List.length_take,Nat.min_eq_left (by omega),List.getD_eq_getElem?_getD,List.getElem?_eq_getElem h];rfl
theorem ki:∀ (l:List Nat) (i x:Nat),i<l.length->ae (l.set i x)+l.getD i 0*65536 ^ i=ae l+x*65536 ^ i
 | [],i,_,h=>by simp at h
 | y::r,0,x,_=>by simp [ae];omega
 | y::r,i+1,x,h=>by
  have:=ki r i x (by simpa using h);simp only [List.set_cons_succ,ae,List.getD_cons_succ,Nat.pow_succ];have e1:r.getD i 0*(65536 ^ i*65536)=65536*(r.getD i 0*65536 ^ i):=by rw [<- Nat.mul_assoc,Nat.mul_comm]
  have e2:x*(65536 ^ i*65536)=65536*(x*65536 ^ i):=by rw [<- Nat.mul_assoc,Nat.mul_comm]
  rw [e1,e2];omega
theorem oV (l:List Nat) (i:Nat):l.getD i 0*65536 ^ i<=ae l:=by
 by_cases h:i<l.length
 ·have h1:=fH l i h;have h2:=fY l (i+1) (by omega);omega
 ·rw [List.getD_eq_getElem?_getD,List.getElem?_eq_none (by omega)];show 0*_<=_;rw [Nat.zero_mul];exact Nat.zero_le _
theorem Ii {l:List Nat} (h:bl l) (i:Nat) (hi:i<l.length):ae l / 65536 ^ i % 65536=l.getD i 0:=by
 have h1:=fY l i (by omega);have h2:=cZ (h.take i);rw [List.length_take,Nat.min_eq_left (by omega)] at h2;have h3:l.drop i=l.getD i 0::l.drop (i+1):=by
  rw [List.drop_eq_getElem_cons hi,List.getD_eq_getElem?_getD,List.getElem?_eq_getElem hi];rfl
 have h4:=h.at i;rw [h1,Nat.add_mul_div_left _ _ (Nat.pow_pos (by decide)),Nat.div_eq_of_lt h2,Nat.zero_add,h3,ae,Nat.add_mul_mod_self_left,Nat.mod_eq_of_lt h4]
theorem sH {l:List Nat} (h:bl l) (i:Nat):ae l / 65536 ^ i % 65536=l.getD i 0:=by
 by_cases hi:i<l.length
 ·exact Ii h i hi
 ·have h1:=cZ h;have h2:65536 ^ l.length<=65536 ^ i:=Nat.pow_le_pow_right (by decide) (by omega);rw [Nat.div_eq_of_lt (by omega),List.getD_eq_getElem?_getD,List.getElem?_eq_none (by omega)];rfl
def BF (l:List Nat):Prop:=∀ n,l.length=n+1->l.getD n 0≠0
theorem BF.ge {l:List Nat} (h:BF l) {n:Nat} (hn:l.length=n+1):65536 ^ n<=ae l:=by
 have h1:=oV l n;have h2:1*65536 ^ n<=l.getD n 0*65536 ^ n:=Nat.mul_le_mul_right _ (Nat.pos_of_ne_zero (h n hn));omega
theorem x8 {a b:List Nat} (hb:BF b) (ha:bl a) (h:a.length<b.length):ae a<ae b:=by
 obtain ⟨n,hn⟩:∃ n,b.length=n+1:=⟨b.length - 1,by omega⟩;have h1:=hb.ge hn;have h2:=cZ ha;have h3:65536 ^ a.length<=65536 ^ n:=Nat.pow_le_pow_right (by decide) (by omega);omega
theorem x9 {a b:List Nat} {i:Nat} (ha:bl a) (hl:a.length=b.length) (hi:i<a.length) (hd:a.drop (i+1)=b.drop (i+1)) (h:a.getD i 0<b.getD i 0):ae a<ae b:=by
 have h1:=fY a (i+1) (by omega);have h2:=fY b (i+1) (by omega);have h3:=fH a i hi;have h4:=fH b i (by omega);have h5:=cZ (ha.take i);rw [List.length_take,Nat.min_eq_left (by omega)] at h5;have h6:(a.getD i 0+1)*65536 ^ i<=b.getD i 0*65536 ^ i:=Nat.mul_le_mul_right _ h;rw [Nat.add_mul,Nat.one_mul] at h6;rw [hd] at h1;omega
theorem we {a b:List Nat} {i:Nat} (hl:a.length=b.length) (hi:i<a.length) (hd:a.drop (i+1)=b.drop (i+1)) (h:a.getD i 0=b.getD i 0):a.drop i=b.drop i:=by
 rw [List.getD_eq_getElem?_getD,List.getD_eq_getElem?_getD,List.getElem?_eq_getElem hi,List.getElem?_eq_getElem (by omega:i<b.length)] at h;rw [List.drop_eq_getElem_cons hi,List.drop_eq_getElem_cons (by omega:i<b.length),hd]
 congr 1
def fp (x y:Nat):Int:=if x<y then -1 else if y<x then 1 else 0
def eY (l:List Nat):Nat->Nat
 | 0=>0
 | n+1=>if l.getD n 0=0 then eY l n else n+1
theorem AW (l:List Nat):∀ n,eY l n<=n
 | 0=>Nat.le_refl _
 | n+1=>by
  rw [eY];split
  ·have:=AW l n;omega
  ·exact Nat.le_refl _
def lq (l:List Nat):List Nat:=l.take (eY l l.length)
theorem AX (l:List Nat):∀ n,n<=l.length->ae (l.take (eY l n))=ae (l.take n)
 | 0,_=>rfl
 | n+1,h=>by
  rw [eY];split
  ·rename_i h0
   rw [AX l n (by omega),fH l n (by omega),h0,Nat.zero_mul,Nat.add_zero]
  ·rfl
theorem dY (l:List Nat):ae (lq l)=ae l:=by
 rw [lq,AX l l.length (Nat.le_refl _),List.take_length]
theorem wH (l:List Nat):∀ n m,n<=l.length->eY l n=m+1->l.getD m 0≠0
 | 0,m,_,h=>by simp [eY] at h
 | n+1,m,hn,h=>by
  rw [eY] at h;split at h
  ·exact wH l n m (by omega) h
  ·rename_i h0
   have:m=n:=by omega
   subst this;exact h0
theorem ik (l:List Nat):BF (lq l):=by
 intro n hn;have h1:=AW l l.length;rw [lq,List.length_take,Nat.min_eq_left h1] at hn;have h2:=wH l l.length n (Nat.le_refl _) hn;rw [lq,List.getD_eq_getElem?_getD,List.getElem?_take_of_lt (by omega)];rwa [List.getD_eq_getElem?_getD] at h2
theorem iX (c:UInt8) (r:Bs):ar (c::r)=c.toNat*256 ^ r.length+ar r:=by
 rw [ar,List.foldl_cons,pS,Nat.zero_mul,Nat.zero_add]
theorem Ij {s:Bs} {i:Nat} (h:i<s.length):ar (s.drop (s.length - 1 - i))=(s.getD (s.length - 1 - i) 0).toNat*256 ^ i+ar (s.drop (s.length - i)):=by
 have h1:s.length - 1 - i<s.length:=by omega
 rw [List.drop_eq_getElem_cons h1,iX,List.length_drop,show s.length - 1 - i+1=s.length - i by omega,show s.length - (s.length - i)=i by omega,List.getD_eq_getElem?_getD,List.getElem?_eq_getElem h1];rfl
theorem nW {s:Bs} {i:Nat} (h:i<=s.length):ar (s.drop (s.length - i))<256 ^ i:=by
 have:=jH (s.drop (s.length - i));rwa [List.length_drop,show s.length - (s.length - i)=i by omega] at this
theorem pow_two (k:Nat):65536 ^ k=256 ^ (2*k):=by rw [Nat.pow_mul]
def DH (c i:Nat):Nat:=if i % 2=1 then c*256 else c
theorem Pn (c i:Nat):DH c i*65536 ^ (i / 2)=c*256 ^ i:=by
 unfold DH;rw [pow_two];by_cases h:i % 2=1
 ·rw [if_pos h,show c*256 ^ i=c*256 ^ (2*(i / 2)+1) by congr 2;omega,Nat.pow_succ,Nat.mul_assoc,Nat.mul_comm 256,<- Nat.mul_assoc]
 ·rw [if_neg h,show 2*(i / 2)=i by omega]
theorem yL {l:List Nat} {i:Nat} (h:ae l<256 ^ i):(i % 2=1->l.getD (i / 2) 0<256)/\(i % 2=0->l.getD (i / 2) 0=0):=by
 have h1:=oV l (i / 2);rw [pow_two] at h1;constructor
 ·intro h2;have e:256 ^ i=256*256 ^ (2*(i / 2)):=by rw [<- Nat.pow_succ'];congr 1;omega
  have h3:l.getD (i / 2) 0*256 ^ (2*(i / 2))<256*256 ^ (2*(i / 2)):=by omega
  exact Nat.lt_of_mul_lt_mul_right h3
 ·intro h2;have e:256 ^ i=1*256 ^ (2*(i / 2)):=by rw [Nat.one_mul];congr 1;omega
  have h3:l.getD (i / 2) 0*256 ^ (2*(i / 2))<1*256 ^ (2*(i / 2)):=by omega
  have:=Nat.lt_of_mul_lt_mul_right h3;omega
theorem wX {s:Bs} {l:List Nat} {i:Nat} (hi:i<s.length) (_hin:bl l) (hl:i / 2<l.length) (hv:ae l=ar (s.drop (s.length - i))) :
  ae (l.set (i / 2) (l.getD (i / 2) 0+DH (s.getD (s.length - 1 - i) 0).toNat i))=ar (s.drop (s.length - (i+1)))/\l.getD (i / 2) 0+DH (s.getD (s.length - 1 - i) 0).toNat i<65536:=by
 have h1:=Ij hi;have h2:ar (s.drop (s.length - i))<256 ^ i:=nW (by omega);have h3:=ki l (i / 2) (l.getD (i / 2) 0+DH (s.getD (s.length - 1 - i) 0).toNat i) hl;have h4:=yL (by rw [hv];exact h2:ae l<256 ^ i);have h5:=(s.getD (s.length - 1 - i) 0).toNat_lt;rw [Nat.add_mul,Pn] at h3;refine ⟨?_,?_⟩
 ·rw [show s.length - (i+1)=s.length - 1 - i by omega,h1];omega
 ·unfold DH;by_cases h:i % 2=1
  ·rw [if_pos h];have:=h4.1 h;omega
  ·rw [if_neg h];have:=h4.2 (by omega);omega
def tu (s:Bs):Prop:=∀ c r,s=c::r->c≠0
theorem Po {c:UInt8} {r:Bs} (h:c≠0):256 ^ r.length<=ar (c::r):=by
 have h1:1<=c.toNat:=Nat.pos_of_ne_zero (fun e=>h (UInt8.toNat_inj.1 e));rw [iX];have:=Nat.mul_le_mul_right (256 ^ r.length) h1;omega
theorem AY:∀ {s t:Bs},s.length=t.length->ar s=ar t->s=t
 | [],[],_,_=>rfl
 | [],_::_,h,_=>by simp at h
 | _::_,[],h,_=>by simp at h
 | c::r,d::q,h,hv=>by
  have hl:r.length=q.length:=by simpa using h
  have h1:=jH r;have h2:=jH q;rw [iX,iX] at hv;rw [<- hl] at hv h2;have hp:0<256 ^ r.length:=Nat.pow_pos (by decide);have hc:c.toNat=d.toNat:=by
   have e1:(c.toNat*256 ^ r.length+ar r) / 256 ^ r.length=c.toNat:=by rw [Nat.mul_comm,Nat.mul_add_div hp,Nat.div_eq_of_lt h1,Nat.add_zero]
   have e2:(d.toNat*256 ^ r.length+ar q) / 256 ^ r.length=d.toNat:=by rw [Nat.mul_comm,Nat.mul_add_div hp,Nat.div_eq_of_lt h2,Nat.add_zero]
   rw [<- e1,<- e2,hv]
  have hrq:ar r=ar q:=by rw [hc] at hv;omega
  rw [UInt8.toNat_inj.1 hc,AY hl hrq]
theorem AZ {s t:Bs} (ht:tu t) (h:s.length<t.length):ar s<ar t:=by
 cases t with
 | nil=>simp at h
 | cons c r=>
  have h1:=Po (c:=c) (r:=r) (ht c r rfl);have h2:=jH s;have h3:256 ^ s.length<=256 ^ r.length:=Nat.pow_le_pow_right (by decide) (by simp at h;omega);omega
theorem LW {s t:Bs} (hs:tu s) (ht:tu t) (h:ar s=ar t):s=t:=by
 rcases Nat.lt_trichotomy s.length t.length with h1|h1|h1
 ·have:=AZ ht h1;omega
 ·exact AY h1 h
 ·have:=AZ hs h1;omega
def lP (v n:Nat):Prop:=v<2 ^ n/\(n≠0->2 ^ (n - 1)<=v)
theorem lP.uniq {v n m:Nat} (h1:lP v n) (h2:lP v m):n=m:=by
 rcases Nat.lt_trichotomy n m with h|h|h
 ·have h3:=h2.2 (by omega);have h4:2 ^ n<=2 ^ (m - 1):=Nat.pow_le_pow_right (by decide) (by omega);have:=h1.1;omega
 ·exact h
 ·have h3:=h1.2 (by omega);have h4:2 ^ m<=2 ^ (n - 1):=Nat.pow_le_pow_right (by decide) (by omega);have:=h2.1;omega
def kj (s:Bs):Bool:=match s with
 | []=>true
 | c::_=>c != 0
theorem pX {s:Bs}:kj s=true ↔ tu s:=by
 cases s with
 | nil=>exact ⟨fun _ c r h=>by (cases h),fun _=>rfl⟩
 | cons c r=>
  simp only [kj,bne_iff_ne,ne_eq];exact ⟨fun h c' r' e=>by cases e;exact h,fun h=>h c r rfl⟩
theorem El {f s:Bs} (hf:tu f) (hv:ar f=ar s):(f==s)=kj s:=by
 rw [Bool.eq_iff_iff,beq_iff_eq,pX];exact ⟨fun h=>h ▸ hf,fun h=>LW hf h hv⟩
theorem Ik (s:Bs) (h:s≠[]):ar s % 2=(s.getLast?.getD 0).toNat % 2:=by
 obtain ⟨q,c,rfl⟩:∃ q c,s=q++[c]:=⟨s.dropLast,s.getLast h,(List.dropLast_concat_getLast h).symm⟩;rw [iU];simp;omega
theorem LX (s:Bs):rE s=(kj s&&decide (ar s % 2=1)):=by
 cases s with
 | nil=>rfl
 | cons c r=>
  rw [Ik _ (by simp)];simp only [rE,kj]
  congr 1
theorem Il (c:UInt8) (h:c≠0):2 ^ (Lib.bitLen c.toNat - 1)<=c.toNat/\c.toNat<2 ^ Lib.bitLen c.toNat/\1<=Lib.bitLen c.toNat/\Lib.bitLen c.toNat<=8:=by
 have:=eF (p:=fun c=>decide (c≠0->2 ^ (Lib.bitLen c.toNat - 1)<=c.toNat/\c.toNat<2 ^ Lib.bitLen c.toNat/\1<=Lib.bitLen c.toNat/\Lib.bitLen c.toNat<=8)) (by decide +kernel) c;exact of_decide_eq_true this h
theorem Dk {s:Bs} (h:tu s):rD s=s:=by
 cases s with
 | nil=>rfl
 | cons c r=>
  have:=h c r rfl;simp [rD,Lib.trimLeftS,this]
theorem EM {s:Bs} (h:tu s):∃ n:Nat,je s=(n:Int)/\lP (ar s) n:=by
 unfold je;rw [Dk h];cases s with
 | nil=>exact ⟨0,rfl,by decide,fun h=>absurd rfl h⟩
 | cons c r=>
  obtain ⟨h1,h2,h3,h4⟩:=Il c (h c r rfl);have h5:=jH r;obtain ⟨b,hb⟩:∃ b,b=Lib.bitLen c.toNat:=⟨_,rfl⟩;rw [<- hb] at h1 h2 h3 h4;refine ⟨8*r.length+b,by simp only [List.length_cons];omega,?_,fun _ => ?_⟩
  ·rw [iX,Nat.pow_add,show 2 ^ (8*r.length)=256 ^ r.length by rw [Nat.pow_mul]];have h6:(c.toNat+1)*256 ^ r.length<=2 ^ b*256 ^ r.length:=Nat.mul_le_mul_right _ h2;rw [Nat.add_mul,Nat.one_mul,Nat.mul_comm (2 ^ b)] at h6;omega
  ·rw [iX,show 8*r.length+b - 1=8*r.length+(b - 1) by omega,Nat.pow_add,show 2 ^ (8*r.length)=256 ^ r.length by rw [Nat.pow_mul],Nat.mul_comm];have h6:=Nat.mul_le_mul_right (256 ^ r.length) h1;omega
theorem RU (n e:Bs) (nb eb:Nat) (h1:lP (ar n) nb) (h2:lP (ar e) eb) :
  pr n e=(kj n&&kj e&&decide (ar n % 2=1)&&decide (ar e % 2=1)&&decide (512<=nb)&&decide (nb<=2048)&&decide (3<=ar e)&&decide (eb<=32)):=by
 unfold pr;rw [LX,LX];by_cases hn:kj n=true
 ·by_cases he:kj e=true
  ·obtain ⟨Zn,e1,k1⟩:=EM (pX.1 hn);obtain ⟨XC,e2,k2⟩:=EM (pX.1 he);obtain rfl:=k1.uniq h1;obtain rfl:=k2.uniq h2;rw [e1,e2,hn,he];by_cases hp:ar e % 2=1
   ·have h3:(2<=(XC:Int)) ↔ 3<=ar e:=by
     constructor
     ·intro h;have h4:=h2.2 (by omega);have h5:2 ^ 1<=2 ^ (XC - 1):=Nat.pow_le_pow_right (by decide) (by omega);omega
     ·intro h;refine Decidable.byContradiction fun hc => ?_;have h4:=h2.1;have h5:2 ^ XC<=2 ^ 1:=Nat.pow_le_pow_right (by decide) (by omega);omega
    (have g1:(512<=(Zn:Int)) ↔ 512<=Zn:=by omega);(have g2:((Zn:Int)<=2048) ↔ Zn<=2048:=by omega);(have g3:((XC:Int)<=32) ↔ XC<=32:=by omega);simp only [h3,g1,g2,g3,hp,Bool.true_and,Bool.and_true,decide_true,Bool.and_assoc]
   ·simp [hp]
  ·rw [Bool.not_eq_true] at he;simp [he]
 ·rw [Bool.not_eq_true] at hn;simp [hn]
theorem kT (l:List Nat) (i:Nat):ae (l.take (i+1))=ae (l.take i)+l.getD i 0*65536 ^ i:=by
 by_cases h:i<l.length
 ·exact fH l i h
 ·rw [List.take_of_length_le (by omega),List.take_of_length_le (by omega),List.getD_eq_getElem?_getD,List.getElem?_eq_none (by omega)];simp
theorem C9 {out a b:List Nat} {c i x:Nat} (hl:out.length=i) (h:ae out+c*65536 ^ i=ae (a.take i)+ae (b.take i)) (hx:x=c+a.getD i 0+b.getD i 0) :
  ae (out++[x % 65536])+x / 65536*65536 ^ (i+1)=ae (a.take (i+1))+ae (b.take (i+1)):=by
 have h0:=Nat.div_add_mod x 65536;have e:x % 65536*65536 ^ i+x / 65536*65536 ^ (i+1)=x*65536 ^ i:=by
  rw [Nat.pow_succ,Nat.mul_comm (65536 ^ i) 65536,<- Nat.mul_assoc,<- Nat.add_mul,Nat.mul_comm (x / 65536),Nat.add_comm,h0]
 rw [i6,hl,kT,kT];rw [hx,Nat.add_mul,Nat.add_mul,<- hx] at e;omega
theorem Db {out a b:List Nat} {c i x:Nat} (hl:out.length=i) (h:ae out+ae (b.take i)=ae (a.take i)+c*65536 ^ i) (hx:x+c+b.getD i 0=65536+a.getD i 0) (hc:x / 65536<=1) :
  ae (out++[x % 65536])+ae (b.take (i+1))=ae (a.take (i+1))+(1 - x / 65536)*65536 ^ (i+1):=by
 have h0:=Nat.div_add_mod x 65536;rw [i6,hl,kT,kT,Nat.pow_succ,Nat.mul_comm (65536 ^ i) 65536,<- Nat.mul_assoc];generalize 65536 ^ i=P at *;generalize a.getD i 0=u at *;generalize b.getD i 0=v at *;have e:x % 65536+v+c=u+(1 - x / 65536)*65536:=by omega
 have e2:=congrArg (· * P) e;simp only [Nat.add_mul] at e2;omega
theorem He {out a b:List Nat} {c:Nat} (hl:out.length=a.length) (ho:bl out) (ha:bl a) (hv:ae b<=ae a) (hc:c<=1) (h:ae out+ae (b.take a.length)=ae (a.take a.length)+c*65536 ^ a.length):ae out=ae a - ae b:=by
 have h1:=cZ ho;have h2:=cZ ha;rw [hl] at h1;rw [List.take_length] at h;have h3:ae (b.take a.length)=ae b:=by
  by_cases iD:a.length<=b.length
  ·have h4:=fY b a.length iD;have h5:ae (b.drop a.length)=0:=by
    refine Decidable.byContradiction fun h6 => ?_;have:65536 ^ a.length*1<=65536 ^ a.length*ae (b.drop a.length):=Nat.mul_le_mul_left _ (by omega);omega
   rw [h5,Nat.mul_zero,Nat.add_zero] at h4;exact h4.symm
  ·rw [List.take_of_length_le (by omega)]
 rw [h3] at h;have:c=0:=by
  refine Decidable.byContradiction fun h6 => ?_;have h7:c=1:=by omega
  rw [h7,Nat.one_mul] at h;omega
 rw [this,Nat.zero_mul] at h;omega
theorem tz {out b:List Nat} {c i k x ai T:Nat} (hk:i+k<out.length) (h:ae out+c*65536 ^ (i+k)=T+ai*65536 ^ i*ae (b.take k)) (hx:x=c+(out.getD (i+k) 0+ai*b.getD k 0)) :
  ae (out.set (i+k) (x % 65536))+x / 65536*65536 ^ (i+(k+1))=T+ai*65536 ^ i*ae (b.take (k+1)):=by
 have h0:=Nat.div_add_mod x 65536;have h1:=ki out (i+k) (x % 65536) hk;have e:x % 65536*65536 ^ (i+k)+x / 65536*65536 ^ (i+(k+1))=x*65536 ^ (i+k):=by
  rw [<- Nat.add_assoc,Nat.pow_succ,Nat.mul_comm (65536 ^ (i+k)) 65536,<- Nat.mul_assoc,<- Nat.add_mul,Nat.mul_comm (x / 65536),Nat.add_comm,h0]
 rw [kT,Nat.mul_add];have e2:ai*65536 ^ i*(b.getD k 0*65536 ^ k)=ai*b.getD k 0*65536 ^ (i+k):=by
  rw [Nat.pow_add,Nat.mul_mul_mul_comm]
 have e3:x*65536 ^ (i+k)=c*65536 ^ (i+k)+(out.getD (i+k) 0*65536 ^ (i+k)+ai*b.getD k 0*65536 ^ (i+k)):=by
  rw [hx,Nat.add_mul,Nat.add_mul]
 rw [e2];omega
theorem wg {out a b:List Nat} {c i:Nat} (hk:i+b.length<out.length) (h0:out.getD (i+b.length) 0=0) (h:ae out+c*65536 ^ (i+b.length)=ae (a.take i)*ae b+a.getD i 0*65536 ^ i*ae (b.take b.length)) :
  ae (out.set (i+b.length) c)=ae (a.take (i+1))*ae b:=by
 have h1:=ki out (i+b.length) c hk;rw [h0,Nat.zero_mul,Nat.add_zero] at h1;rw [List.take_length] at h;rw [kT,Nat.add_mul];omega
theorem left_step {r r' m:List Nat} {t B k x:Nat} (hk:k<r.length) (h:ae (r'.take k)+t*ae (m.take k)=ae (r.take k)+B*65536 ^ k) (hd:r'.drop k=r.drop k) (hl:r'.length=r.length)
  (hx:x+B+t*m.getD k 0=r.getD k 0+1099511627776) (hB:x / 65536<=16777216) :
  ae ((r'.set k (x % 65536)).take (k+1))+t*ae (m.take (k+1))=ae (r.take (k+1))+(16777216 - x / 65536)*65536 ^ (k+1)/\(r'.set k (x % 65536)).drop (k+1)=r.drop (k+1):=by
 have h0:=Nat.div_add_mod x 65536;have e0:(r'.set k (x % 65536)).getD k 0=x % 65536:=by
  rw [List.getD_eq_getElem?_getD,List.getElem?_set_self (by omega)];rfl
 have e1:(r'.set k (x % 65536)).take k=r'.take k:=by rw [List.take_set_of_le (by omega)]
 refine ⟨?_,?_⟩
 ·rw [kT,kT,kT,e0,e1,Nat.mul_add,Nat.pow_succ,Nat.mul_comm (65536 ^ k) 65536,<- Nat.mul_assoc,<- Nat.mul_assoc];generalize 65536 ^ k=P at *;generalize hu:t*m.getD k 0=u at *;generalize r.getD k 0=v at *;have e:x % 65536+u+B=v+(16777216 - x / 65536)*65536:=by omega
  have e2:=congrArg (· * P) e;simp only [Nat.add_mul] at e2;omega
 ·rw [List.drop_set_of_lt (by omega)];have:=congrArg (List.drop 1) hd;rw [List.drop_drop,List.drop_drop] at this;exact this
theorem AH {r r' m:List Nat} {t B n:Nat} (hr:r.length=n+1) (hl:r'.length=n+1) (hm:m.length=n) (bX:bl r') (hle:t*ae m<=ae r) (Ke:bl r)
  (h:ae (r'.take (n+1))+t*ae (m.take (n+1))=ae (r.take (n+1))+B*65536 ^ (n+1)):ae r'=ae r - t*ae m:=by
 rw [List.take_of_length_le (by omega),List.take_of_length_le (by omega),List.take_of_length_le (by omega)] at h;have h1:=cZ bX;have h2:=cZ Ke;rw [hl] at h1;rw [hr] at h2;have:B=0:=by
  refine Decidable.byContradiction fun h6 => ?_;have:1*65536 ^ (n+1)<=B*65536 ^ (n+1):=Nat.mul_le_mul_right _ (by omega);omega
 rw [this,Nat.zero_mul] at h;omega
theorem Hj {r m:List Nat} {n:Nat} (hm:m.length=n) (bX:bl m):r.getD n 0*ae m<=ae r:=by
 have h1:=oV r n;have h2:=cZ bX;rw [hm] at h2;exact Nat.le_trans (Nat.mul_le_mul_left _ (by omega)) h1
theorem oX {x t m:Nat} (h:t*m<=x):(x - t*m) % m=x % m:=by
 conv=>rhs;rw [<- Nat.sub_add_cancel h]
 rw [Nat.add_mul_mod_self_right]
theorem Gm (k:Ky):cI k=((fK k.kid&&fK k.alg) &&
  (if k.kty=0 then pr k.n k.e&&decide (k.x++k.y++k.sec=[])
  else if k.kty=1 then uh k.x k.y&&decide (k.n++k.e++k.sec=[])
  else if k.kty=2 then decide (1<=k.sec.length)&&decide (k.sec.length<=128)&&decide (k.x++k.y++k.n++k.e=[])
  else false)):=by
 unfold cI bN
 congr 1
 by_cases h0:k.kty=0
 ·rw [if_pos h0,if_pos h0];cases k.x<;>cases k.y<;>cases k.sec<;>simp
 ·rw [if_neg h0,if_neg h0];by_cases h1:k.kty=1
  ·rw [if_pos h1,if_pos h1];cases k.n<;>cases k.e<;>cases k.sec<;>simp
  ·rw [if_neg h1,if_neg h1];by_cases h2:k.kty=2
   ·rw [if_pos h2,if_pos h2];cases k.x<;>cases k.y<;>cases k.n<;>cases k.e<;>cases k.sec<;>simp
   ·rw [if_neg h2,if_neg h2]
end Go.Proofs.YtbifjamddbpcjaaGreatDoor
