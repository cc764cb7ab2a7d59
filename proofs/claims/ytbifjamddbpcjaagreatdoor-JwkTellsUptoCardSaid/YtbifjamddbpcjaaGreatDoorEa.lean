/- Numbers of words of 64 bits, plainly. -/
import Derived.Test.YtbifjamddbpcjaaGreatDoorJl
import Derived.Laws.Bits64b
import Derived.Lib.Bytealg
import Derived.Lib.BitFns
namespace Go.Proofs.YtbifjamddbpcjaaGreatDoor
open Go.RowKit
def val:List Nat->Nat
 | []=>0
 | x::r=>x+18446744073709551616*val r
def js (l:List Nat):Prop:=∀ x∈l,x<18446744073709551616
abbrev u64C (l:List Nat):Array Value:=(l.map (fun x:Nat=>Value.int .u64 (x:Int))).toArray
theorem js.head {x:Nat} {r:List Nat} (h:js (x::r)):x<18446744073709551616:=h x (by simp)
theorem js.tail {x:Nat} {r:List Nat} (h:js (x::r)):js r:=fun y hy=>h y (by simp [hy])
theorem js.set {l:List Nat} (h:js l) (i x:Nat) (hx:x<18446744073709551616):js (l.set i x):=by
 intro y hy;rcases List.mem_or_eq_of_mem_set hy with h1|rfl
 ·exact h y h1
 ·exact hx
theorem js.at {l:List Nat} (h:js l) (i:Nat):l.getD i 0<18446744073709551616:=by
 rw [List.getD_eq_getElem?_getD];by_cases hi:i<l.length
 ·rw [List.getElem?_eq_getElem hi];exact h _ (List.getElem_mem hi)
 ·rw [List.getElem?_eq_none (by omega)];decide
theorem val_inj:∀ {a b:List Nat},js a->js b->a.length=b.length->val a=val b->a=b
 | [],[],_,_,_,_=>rfl
 | [],_::_,_,_,h,_=>by simp at h
 | _::_,[],_,_,h,_=>by simp at h
 | x::r,y::s,ha,hb,h,hv=>by
  have h1:=ha.head;have h2:=hb.head;simp only [val] at hv;have hxy:x=y:=by omega
  have hrs:val r=val s:=by omega
  rw [hxy,val_inj ha.tail hb.tail (by simpa using h) hrs]
theorem nJ:∀ {a:List Nat},js a->val a<18446744073709551616 ^ a.length
 | [],_=>by simp [val]
 | x::r,h=>by
  have h1:=h.head;have h2:=nJ h.tail;rw [val,List.length_cons,Nat.pow_succ];omega
theorem qV:∀ (l:List Nat) (i x:Nat),i<l.length->val (l.set i x)+l.getD i 0*18446744073709551616 ^ i=val l+x*18446744073709551616 ^ i
 | [],i,_,h=>by simp at h
 | y::r,0,x,_=>by simp [val];omega
 | y::r,i+1,x,h=>by
  have:=qV r i x (by simpa using h);simp only [List.set_cons_succ,val,List.getD_cons_succ,Nat.pow_succ];have e1:r.getD i 0*(18446744073709551616 ^ i*18446744073709551616)=18446744073709551616*(r.getD i 0*18446744073709551616 ^ i):=by rw [<- Nat.mul_assoc,Nat.mul_comm]
  have e2:x*(18446744073709551616 ^ i*18446744073709551616)=18446744073709551616*(x*18446744073709551616 ^ i):=by rw [<- Nat.mul_assoc,Nat.mul_comm]
  rw [e1,e2];omega
theorem tf (l:List Nat) (i:Nat) (h:i<l.length):val (l.take (i+1))=val (l.take i)+l.getD i 0*18446744073709551616 ^ i:=by
 induction l generalizing i with
 | nil=>simp at h
 | cons y r ih=>
  cases i with
  | zero=>simp [val]
  | succ i=>
   have:=ih i (by simpa using h);rw [List.take_succ_cons,List.take_succ_cons,val,val,this,List.getD_cons_succ,Nat.pow_succ];have e1:r.getD i 0*(18446744073709551616 ^ i*18446744073709551616)=18446744073709551616*(r.getD i 0*18446744073709551616 ^ i):=by rw [<- Nat.mul_assoc,Nat.mul_comm]
   rw [e1];omega
theorem dJ (l:List Nat):(u64C l).size=l.length:=by simp [u64C]
theorem gp {l:List Nat} {i:Nat} (h:i<l.length):(u64C l)[i]?=some (.int .u64 (l.getD i 0:Nat)):=by simp [u64C,h,List.getD_eq_getElem?_getD]
theorem aQ (l:List Nat) (i x:Nat):(u64C l).setIfInBounds i (.int .u64 (x:Int))=u64C (l.set i x):=by
 apply Array.ext';simp [u64C]
def dC (a b:List Nat):Nat->List Nat×Nat
 | 0=>(a,0)
 | i+1=>((dC a b i).1.set i (((dC a b i).1.getD i 0+18446744073709551616 - b.getD i 0 - (dC a b i).2) % 18446744073709551616),if (dC a b i).1.getD i 0<b.getD i 0+(dC a b i).2 then 1 else 0)
theorem oK (a b:List Nat):∀ i,(dC a b i).1.length=a.length
 | 0=>rfl
 | i+1=>by rw [dC];simp [oK a b i]
theorem lV (a b:List Nat):∀ i,(dC a b i).2<=1
 | 0=>by simp [dC]
 | i+1=>by rw [dC];dsimp only;split<;>omega
theorem KI {a0 a1 a2 a3 b0 b1 b2 b3 x0 x1 x2 x3 c1 c2 c3 c4:Nat} (e1:a0+18446744073709551616*c1=b0+x0) (e2:a1+18446744073709551616*c2=b1+c1+x1) (e3:a2+18446744073709551616*c3=b2+c2+x2) (e4:a3+18446744073709551616*c4=b3+c3+x3) :
  val [a0,a1,a2,a3]+115792089237316195423570985008687907853269984665640564039457584007913129639936*c4=val [b0,b1,b2,b3]+val [x0,x1,x2,x3]:=by
 simp only [val,Nat.mul_zero,Nat.add_zero];omega
theorem mG {x y c:Nat} (hx:x<18446744073709551616) (hy:y<18446744073709551616) (hc:c<=1) :
  x+18446744073709551616*(if x<y+c then 1 else 0)=y+c+(x+18446744073709551616 - y - c) % 18446744073709551616:=by
 by_cases h:x<y+c
 ·rw [if_pos h];omega
 ·rw [if_neg h];omega
theorem KJ {n m x c:Nat} (hn:n<115792089237316195423570985008687907853269984665640564039457584007913129639936) (hm:m<115792089237316195423570985008687907853269984665640564039457584007913129639936) (hx:x<115792089237316195423570985008687907853269984665640564039457584007913129639936) (hc:c<=1)
  (h:n+115792089237316195423570985008687907853269984665640564039457584007913129639936*c=m+x):x=(n+115792089237316195423570985008687907853269984665640564039457584007913129639936 - m) % 115792089237316195423570985008687907853269984665640564039457584007913129639936/\c=if n<m then 1 else 0:=by
 by_cases h0:n<m
 ·rw [if_pos h0];obtain rfl:c=1:=by omega
  refine ⟨?_,rfl⟩;rw [Nat.mod_eq_of_lt (by omega)];omega
 ·rw [if_neg h0];obtain rfl:c=0:=by omega
  refine ⟨?_,rfl⟩;rw [show n+115792089237316195423570985008687907853269984665640564039457584007913129639936 - m=(n - m)+115792089237316195423570985008687907853269984665640564039457584007913129639936 by omega,Nat.add_mod_right,Nat.mod_eq_of_lt (by omega)];omega
theorem tg {a b:List Nat} (wa:js a):∀ i,js (dC a b i).1
 | 0=>wa
 | i+1=>(tg wa i).set _ _ (Nat.mod_lt _ (by decide))
theorem mH {a:List Nat} (h:js a) (hl:a.length=4):val a<115792089237316195423570985008687907853269984665640564039457584007913129639936:=by
 have:=nJ h;rw [hl] at this;exact this
theorem GG (a b:List Nat) (ha:a.length=4) (hb:b.length=4) (wa:js a) (wb:js b) :
  val (dC a b 4).1=(val a+115792089237316195423570985008687907853269984665640564039457584007913129639936 - val b) % 115792089237316195423570985008687907853269984665640564039457584007913129639936/\(dC a b 4).2=if val a<val b then 1 else 0:=by
 refine KJ (mH wa ha) (mH wb hb) (mH (tg wa 4) (by rw [oK,ha])) (lV a b 4) ?_
 match a,ha,b,hb with
 | [a0,a1,a2,a3],_,[b0,b1,b2,b3],_=>
  have e1:=mG (wa a0 (by simp)) (wb b0 (by simp)) (Nat.zero_le 1);have l2:=lV [a0,a1,a2,a3] [b0,b1,b2,b3] 1;have e2:=mG (wa a1 (by simp)) (wb b1 (by simp)) l2;have l3:=lV [a0,a1,a2,a3] [b0,b1,b2,b3] 2;have e3:=mG (wa a2 (by simp)) (wb b2 (by simp)) l3;have l4:=lV [a0,a1,a2,a3] [b0,b1,b2,b3] 3;have e4:=mG (wa a3 (by simp)) (wb b3 (by simp)) l4;exact KI e1 e2 e3 e4
def cp (a b:List Nat):Nat->List Nat×Nat
 | 0=>(a,0)
 | i+1=>((cp a b i).1.set i (((cp a b i).1.getD i 0+b.getD i 0+(cp a b i).2) % 18446744073709551616),((cp a b i).1.getD i 0+b.getD i 0+(cp a b i).2) / 18446744073709551616)
theorem oL (a b:List Nat):∀ i,(cp a b i).1.length=a.length
 | 0=>rfl
 | i+1=>by rw [cp];simp [oL a b i]
theorem xP {a b:List Nat} (wa:js a) (i:Nat):js (cp a b i).1:=by
 induction i with
 | zero=>exact wa
 | succ i ih=>exact ih.set i _ (Nat.mod_lt _ (by decide))
theorem qW {a b:List Nat} (wa:js a) (wb:js b):∀ i,(cp a b i).2<=1
 | 0=>by simp [cp]
 | i+1=>by
  have h1:=qW wa wb i;have h2:=(xP (b:=b) wa i).at i;have h3:=wb.at i;rw [cp];dsimp only;omega
theorem xQ (a b:List Nat) (hl:b.length=a.length):∀ i,i<=a.length->(∀ k,i<=k->(cp a b i).1.getD k 0=a.getD k 0)/\val (cp a b i).1+(cp a b i).2*18446744073709551616 ^ i=val a+val (b.take i)
 | 0,_=>⟨fun _ _=>rfl,by simp [cp,val]⟩
 | i+1,h=>by
  obtain ⟨k1,k2⟩:=xQ a b hl i (by omega);have hlen:=oL a b i;refine ⟨fun k hk => ?_,?_⟩
  ·rw [cp];dsimp only;rw [<- k1 k (by omega),List.getD_eq_getElem?_getD,List.getElem?_set_ne (by omega),<- List.getD_eq_getElem?_getD]
  ·rw [tf b i (by omega)];have hv:=qV (cp a b i).1 i (((cp a b i).1.getD i 0+b.getD i 0+(cp a b i).2) % 18446744073709551616) (by omega);rw [cp];dsimp only;generalize (cp a b i).1.set i _=L' at *;generalize (cp a b i).1.getD i 0=x at *;generalize b.getD i 0=y at *;generalize (cp a b i).2=c at *;have hd:=Nat.div_add_mod (x+y+c) 18446744073709551616;generalize (x+y+c) % 18446744073709551616=m at *;generalize (x+y+c) / 18446744073709551616=d at *;rw [Nat.pow_succ];generalize 18446744073709551616 ^ i=Z at *;have e1:d*(Z*18446744073709551616)+m*Z=x*Z+y*Z+c*Z:=by
    rw [<- Nat.add_mul,<- Nat.add_mul,<- hd,Nat.add_mul]
    congr 1
    rw [Nat.mul_comm Z,<- Nat.mul_assoc,Nat.mul_comm d]
   omega
theorem KP {x y c o:Nat} (hx:x<18446744073709551616) (hy:y<18446744073709551616) (hc:c<18446744073709551616) (ho:o<18446744073709551616):(x*y+c+o) / 18446744073709551616<18446744073709551616:=by
 have h:x*y<=18446744073709551615*18446744073709551615:=Nat.mul_le_mul (by omega) (by omega);omega
def dt (x:Nat) (b:List Nat) (i:Nat) (out:List Nat):Nat->List Nat×Nat
 | 0=>(out,0)
 | k+1=>((dt x b i out k).1.set (i+k) ((x*b.getD k 0+(dt x b i out k).2+(dt x b i out k).1.getD (i+k) 0) % 18446744073709551616),(x*b.getD k 0+(dt x b i out k).2+(dt x b i out k).1.getD (i+k) 0) / 18446744073709551616)
theorem oM (x:Nat) (b:List Nat) (i:Nat) (out:List Nat):∀ k,(dt x b i out k).1.length=out.length
 | 0=>rfl
 | k+1=>by rw [dt];simp [oM x b i out k]
theorem qX {x:Nat} {b:List Nat} {i:Nat} {out:List Nat} (wo:js out):∀ k,js (dt x b i out k).1
 | 0=>wo
 | k+1=>(qX wo k).set _ _ (Nat.mod_lt _ (by decide))
theorem xR {x:Nat} {b:List Nat} {i:Nat} {out:List Nat} (hx:x<18446744073709551616) (wb:js b) (wo:js out):∀ k,(dt x b i out k).2<18446744073709551616
 | 0=>by simp [dt]
 | k+1=>by rw [dt];exact KP hx (wb.at k) (xR hx wb wo k) ((qX wo k).at _)
theorem Eu (x:Nat) (b:List Nat) (i:Nat) (out:List Nat):∀ k,k<=b.length->i+k<=out.length->(∀ j,i+k<=j->(dt x b i out k).1.getD j 0=out.getD j 0)/\val (dt x b i out k).1+(dt x b i out k).2*18446744073709551616 ^ (i+k)=val out+x*val (b.take k)*18446744073709551616 ^ i
 | 0,_,_=>⟨fun _ _=>rfl,by simp [dt,val]⟩
 | k+1,h,h2=>by
  obtain ⟨k1,k2⟩:=Eu x b i out k (by omega) (by omega);have hlen:=oM x b i out k;refine ⟨fun j hj => ?_,?_⟩
  ·rw [dt];dsimp only;rw [<- k1 j (by omega),List.getD_eq_getElem?_getD,List.getElem?_set_ne (by omega),<- List.getD_eq_getElem?_getD]
  ·rw [tf b k (by omega)];have hv:=qV (dt x b i out k).1 (i+k) ((x*b.getD k 0+(dt x b i out k).2+(dt x b i out k).1.getD (i+k) 0) % 18446744073709551616) (by omega);rw [dt];dsimp only;generalize (dt x b i out k).1.set (i+k) _=L' at *;generalize (dt x b i out k).1.getD (i+k) 0=o at *;generalize b.getD k 0=y at *;generalize (dt x b i out k).2=c at *;have hd:=Nat.div_add_mod (x*y+c+o) 18446744073709551616;generalize (x*y+c+o) % 18446744073709551616=m at *;generalize (x*y+c+o) / 18446744073709551616=d at *;rw [<- Nat.add_assoc i k 1,Nat.pow_succ];rw [Nat.mul_add,Nat.add_mul,show x*(y*18446744073709551616 ^ k)*18446744073709551616 ^ i=x*y*18446744073709551616 ^ (i+k) by rw [Nat.pow_add];simp only [Nat.mul_assoc,Nat.mul_comm,Nat.mul_left_comm]];generalize 18446744073709551616 ^ (i+k)=Z at *;have e1:d*(Z*18446744073709551616)+m*Z=x*y*Z+c*Z+o*Z:=by
    rw [<- Nat.add_mul,<- Nat.add_mul,<- hd,Nat.add_mul]
    congr 1
    rw [Nat.mul_comm Z,<- Nat.mul_assoc,Nat.mul_comm d]
   omega
def eX (a b:List Nat):Nat->List Nat
 | 0=>[0,0,0,0,0,0,0,0]
 | i+1=>(dt (a.getD i 0) b i (eX a b i) 4).1.set (i+4) (dt (a.getD i 0) b i (eX a b i) 4).2
theorem oN (a b:List Nat):∀ i,(eX a b i).length=8
 | 0=>rfl
 | i+1=>by rw [eX,List.length_set,oM,oN a b i]
theorem oO {a b:List Nat} (wa:js a) (wb:js b):∀ i,js (eX a b i)
 | 0=>by intro y hy;simp [eX] at hy;omega
 | i+1=>(qX (oO wa wb i) 4).set _ _ (xR (wa.at i) wb (oO wa wb i) 4)
theorem Ap (a b:List Nat) (ha:a.length=4) (hb:b.length=4):∀ i,i<=4->(∀ j,i+4<=j->(eX a b i).getD j 0=0)/\val (eX a b i)=val (a.take i)*val b
 | 0,_=>by
  refine ⟨fun j hj => ?_,by simp [eX,val]⟩
  match j with
  | 0|1|2|3=>omega
  | 4|5|6|7=>rfl
  | j+8=>rfl
 | i+1,h=>by
  obtain ⟨k1,k2⟩:=Ap a b ha hb i (by omega);have hlen:=oN a b i;obtain ⟨r1,r2⟩:=Eu (a.getD i 0) b i (eX a b i) 4 (by omega) (by omega);have JC:=oM (a.getD i 0) b i (eX a b i) 4;refine ⟨fun j hj => ?_,?_⟩
  ·rw [eX,List.getD_eq_getElem?_getD,List.getElem?_set_ne (by omega),<- List.getD_eq_getElem?_getD,r1 j (by omega),k1 j (by omega)]
  ·rw [eX,tf a i (by omega)];have hv:=qV (dt (a.getD i 0) b i (eX a b i) 4).1 (i+4) (dt (a.getD i 0) b i (eX a b i) 4).2 (by omega);rw [r1 (i+4) (by omega),k1 (i+4) (by omega),Nat.zero_mul,Nat.add_zero] at hv;rw [hv,r2,k2,Nat.add_mul,show b.take 4=b from List.take_of_length_le (by omega)]
   congr 1
   rw [Nat.mul_assoc,Nat.mul_comm (val b),<- Nat.mul_assoc]
theorem GH {a b:List Nat} (ha:a.length=4) (hb:b.length=4):val (eX a b 4)=val a*val b:=by
 rw [(Ap a b ha hb 4 (by omega)).2,List.take_of_length_le (by omega)]
def dR:Nat->Nat->List Nat
 | 0,_=>[]
 | k+1,n=>n % 18446744073709551616::dR k (n / 18446744073709551616)
theorem dS:∀ k n,(dR k n).length=k
 | 0,_=>rfl
 | k+1,n=>by rw [dR,List.length_cons,dS k]
theorem ij:∀ k n,js (dR k n)
 | 0,_=>by intro y hy;simp [dR] at hy
 | k+1,n=>by
  intro y hy;rw [dR,List.mem_cons] at hy;rcases hy with rfl|hy
  ·exact Nat.mod_lt _ (by decide)
  ·exact ij k _ y hy
theorem fh:∀ k n,n<18446744073709551616 ^ k->val (dR k n)=n
 | 0,n,h=>by simp at h;simp [dR,val,h]
 | k+1,n,h=>by
  rw [Nat.pow_succ] at h;rw [dR,val,fh k (n / 18446744073709551616) (by omega)];omega
theorem CU {l:List Nat} (h:js l):dR l.length (val l)=l:=
 val_inj (ij _ _) h (dS _ _) (fh _ _ (nJ h))
theorem xU {k:Nat} {l:List Nat} {n:Nat} (hl:l.length=k) (h:js l) (hv:val l=n):l=dR k n:=by rw [<- hv,<- hl,CU h]
theorem Ev {k n m:Nat} (hn:n<18446744073709551616 ^ k) (hm:m<18446744073709551616 ^ k):dR k n=dR k m ↔ n=m:=
 ⟨fun h=>by rw [<- fh k n hn,h,fh k m hm],fun h=>by rw [h]⟩
def pP:Nat:=115792089210356248762697446949407573530086143415290314195533631308867097853951
def cP:Nat:=26959946660873538059280334323183841250350249843923952699046031785985
theorem BQ (a b:Nat) (ha:a<9223372036854775808) (hb:b<9223372036854775808):bits .or .i64 (a:Int) (b:Int)=((a ||| b:Nat):Int):=by
 have hx:a ||| b<2 ^ 63:=Nat.or_lt_two_pow (by omega) (by omega)
 have h1:(BitVec.ofInt 64 (a:Int)).toNat=a:=by
  rw [BitVec.ofInt_natCast,BitVec.toNat_ofNat];exact Nat.mod_eq_of_lt (by omega)
 have h2:(BitVec.ofInt 64 (b:Int)).toNat=b:=by
  rw [BitVec.ofInt_natCast,BitVec.toNat_ofNat];exact Nat.mod_eq_of_lt (by omega)
 show IntKind.i64.wrap ((BitVec.ofInt 64 (a:Int) ||| BitVec.ofInt 64 (b:Int)).toNat:Int)=_;rw [BitVec.toNat_or,h1,h2,IntKind.wrap_i64];omega
theorem Ew (a b:Nat) (ha:a<9223372036854775808) (hb:b<9223372036854775808):bits .and .i64 (a:Int) (b:Int)=((a &&& b:Nat):Int):=by
 have hx:a &&& b<2 ^ 63:=Nat.and_lt_two_pow _ (by omega);have h1:(BitVec.ofInt 64 (a:Int)).toNat=a:=by
  rw [BitVec.ofInt_natCast,BitVec.toNat_ofNat];exact Nat.mod_eq_of_lt (by omega)
 have h2:(BitVec.ofInt 64 (b:Int)).toNat=b:=by
  rw [BitVec.ofInt_natCast,BitVec.toNat_ofNat];exact Nat.mod_eq_of_lt (by omega)
 show IntKind.i64.wrap ((BitVec.ofInt 64 (a:Int) &&& BitVec.ofInt 64 (b:Int)).toNat:Int)=_;rw [BitVec.toNat_and,h1,h2,IntKind.wrap_i64];omega
theorem U0 (a b:Nat) (ha:a<256) (hb:b<256):bits .or .u8 (a:Int) (b:Int)=((a ||| b:Nat):Int):=by
 have hx:a ||| b<2 ^ 8:=Nat.or_lt_two_pow (by omega) (by omega)
 have h1:(BitVec.ofInt 8 (a:Int)).toNat=a:=by
  rw [BitVec.ofInt_natCast,BitVec.toNat_ofNat];exact Nat.mod_eq_of_lt (by omega)
 have h2:(BitVec.ofInt 8 (b:Int)).toNat=b:=by
  rw [BitVec.ofInt_natCast,BitVec.toNat_ofNat];exact Nat.mod_eq_of_lt (by omega)
 show IntKind.u8.wrap ((BitVec.ofInt 8 (a:Int) ||| BitVec.ofInt 8 (b:Int)).toNat:Int)=_;rw [BitVec.toNat_or,h1,h2,IntKind.wrap_u8];omega
theorem ry (a b k:Nat) (h:b<2 ^ k):(a*2 ^ k) ||| b=a*2 ^ k+b:=by
 rw [<- Nat.shiftLeft_eq,<- Nat.shiftLeft_add_eq_or_of_lt h]
theorem KQ (a b k:Nat) (ha:a*2 ^ k<9223372036854775808) (hb:b<2 ^ k) (hk:2 ^ k<=9223372036854775808):bits .or .i64 ((a*2 ^ k:Nat):Int) (b:Int)=((a*2 ^ k+b:Nat):Int):=by
 rw [BQ _ _ ha (by omega),ry _ _ _ hb]
theorem Ja (a b c:UInt8):bits .or .i64 (bits .or .i64 ((a.toNat:Int)*65536) ((b.toNat:Int)*256)) (c.toNat:Int)=((a.toNat*65536+b.toNat*256+c.toNat:Nat):Int):=by
 have ha:=a.toNat_lt;have hb:=b.toNat_lt;have hc:=c.toNat_lt;have e1:=KQ a.toNat (b.toNat*256) 16 (by omega) (by omega) (by omega);have e2:=KQ (a.toNat*256+b.toNat) c.toNat 8 (by omega) (by omega) (by omega);simp only [Nat.reducePow,Int.natCast_mul,Int.natCast_add,Int.cast_ofNat_Int] at e1 e2 ⊢;rw [e1,show (a.toNat:Int)*65536+(b.toNat:Int)*256=((a.toNat:Int)*256+(b.toNat:Int))*256 by omega,e2]
theorem uR (n:Nat) (h:n<9223372036854775808):bits .and .i64 (n:Int) 63=((n % 64:Nat):Int):=by
 have:=Ew n 63 h (by omega);rw [show n &&& 63=n % 64 from Nat.and_two_pow_sub_one_eq_mod n 6] at this;exact this
def Jc:Bs:=[65,66,67,68,69,70,71,72,73,74,75,76,77,78,79,80,81,82,83,84,85,86,87,88,89,90,97,98,99,100,101,102,103,104,105,106,107,108,109,110,111,112,113,114,115,116,117,118,119,120,121,122,48,49,50,51,52,53,54,55,56,57,45,95]
def dm (n:Nat):UInt8:=Jc.getD n 0
def aX:Bs->Bs
 | a::b::c::r=>dm (a.toNat / 4)::dm ((a.toNat*16+b.toNat / 16) % 64)::dm ((b.toNat*4+c.toNat / 64) % 64)::dm (c.toNat % 64)::aX r
 | [a,b]=>[dm (a.toNat / 4),dm ((a.toNat*16+b.toNat / 16) % 64),dm (b.toNat*4 % 64)]
 | [a]=>[dm (a.toNat / 4),dm (a.toNat*16 % 64)]
 | []=>[]
def lf (c:UInt8):Int:=Lib.indexByte Jc c
def cQ:Bs->Option (List Nat)
 | []=>some []
 | c::r=>if lf c<0 then none else (cQ r).map ((lf c).toNat :: ·)
def eR:List Nat->Option Bs
 | a::b::c::d::r=>(eR r).map ([(a*4+b / 16).toUInt8,(b % 16*16+c / 4).toUInt8,(c % 4*64+d).toUInt8] ++ ·)
 | [_]=>none
 | [a,b]=>if b % 16=0 then some [(a*4+b / 16).toUInt8] else none
 | [a,b,c]=>if c % 4=0 then some [(a*4+b / 16).toUInt8,(b % 16*16+c / 4).toUInt8] else none
 | []=>some []
def fE (s:Bs):Option Bs:=(cQ s).bind eR
theorem dO:∀ s:Bs,(aX s).length=(4*s.length+2) / 3
 | a::b::c::r=>by simp only [aX,List.length_cons,dO r];omega
 | [a,b]=>by simp [aX]
 | [a]=>by simp [aX]
 | []=>rfl
theorem GI:18446744073709551616 ^ 4=115792089237316195423570985008687907853269984665640564039457584007913129639936:=by decide
theorem Sw:18446744073709551616 ^ 8=115792089237316195423570985008687907853269984665640564039457584007913129639936*115792089237316195423570985008687907853269984665640564039457584007913129639936:=by decide
theorem Ex:∀ (a b:List Nat),val (a++b)=val a+18446744073709551616 ^ a.length*val b
 | [],b=>by simp [val]
 | x::r,b=>by
  rw [List.cons_append,val,val,Ex r b,List.length_cons,Nat.pow_succ,Nat.mul_add,Nat.mul_comm (18446744073709551616 ^ r.length) 18446744073709551616,Nat.mul_assoc,Nat.add_assoc]
theorem vQ (l:List Nat) (k:Nat) (h:k<=l.length):val l=val (l.take k)+18446744073709551616 ^ k*val (l.drop k):=by
 have:=Ex (l.take k) (l.drop k);rwa [List.take_append_drop,List.length_take,Nat.min_eq_left h] at this
theorem js.take {l:List Nat} (h:js l) (k:Nat):js (l.take k):=fun x hx=>h x (List.mem_of_mem_take hx)
theorem js.drop {l:List Nat} (h:js l) (k:Nat):js (l.drop k):=fun x hx=>h x (List.mem_of_mem_drop hx)
def oP (v:Nat):Nat:=v / 115792089237316195423570985008687907853269984665640564039457584007913129639936*cP+v % 115792089237316195423570985008687907853269984665640564039457584007913129639936
theorem KU (v:Nat):oP v % pP=v % pP:=by
 unfold oP;have h:=Nat.div_add_mod v 115792089237316195423570985008687907853269984665640564039457584007913129639936;generalize v / 115792089237316195423570985008687907853269984665640564039457584007913129639936=q at *;generalize v % 115792089237316195423570985008687907853269984665640564039457584007913129639936=r at *;rw [<- h];have e:115792089237316195423570985008687907853269984665640564039457584007913129639936*q+r=q*cP+r+pP*q:=by unfold cP pP;omega
 rw [e,Nat.add_mul_mod_self_left]
theorem OG {v:Nat} (h:115792089237316195423570985008687907853269984665640564039457584007913129639936<=v):oP v<v:=by
 unfold oP;have h1:=Nat.div_add_mod v 115792089237316195423570985008687907853269984665640564039457584007913129639936;have h2:0<v / 115792089237316195423570985008687907853269984665640564039457584007913129639936:=Nat.div_pos h (by decide);generalize v / 115792089237316195423570985008687907853269984665640564039457584007913129639936=q at *;generalize v % 115792089237316195423570985008687907853269984665640564039457584007913129639936=r at *;unfold cP;omega
theorem OH {l:List Nat} (hl:l.length=8) (h:js l):oP (val l)=val (l.drop 4)*cP+val (l.take 4):=by
 have h1:=vQ l 4 (by omega);have h2:=nJ (h.take 4);rw [List.length_take,Nat.min_eq_left (by omega),GI] at h2;rw [GI] at h1;unfold oP;rw [h1];generalize val (l.take 4)=lo at *;generalize val (l.drop 4)=hi at *;rw [Nat.add_mul_div_left _ _ (by decide),Nat.div_eq_of_lt h2,Nat.zero_add,Nat.add_mul_mod_self_left,Nat.mod_eq_of_lt h2]
theorem GJ {l:List Nat} (hl:l.length=8) (h:js l):val (l.drop 4)*cP+val (l.take 4)<18446744073709551616 ^ 8:=by
 have h2:=nJ (h.take 4);have h3:=nJ (h.drop 4);rw [List.length_take,Nat.min_eq_left (by omega),GI] at h2;rw [List.length_drop,hl,GI] at h3;rw [Sw];generalize val (l.take 4)=lo at *;generalize val (l.drop 4)=hi at *;unfold cP;omega
theorem CV:pP<115792089237316195423570985008687907853269984665640564039457584007913129639936:=by decide
theorem KV:115792089237316195423570985008687907853269984665640564039457584007913129639936<2*pP:=by decide
theorem KZ {n:Nat} (h:n<2*pP):n % pP=if n<pP then n else n - pP:=by
 split
 ·exact Nat.mod_eq_of_lt (by assumption)
 ·rw [Nat.mod_eq_sub_mod (by omega),Nat.mod_eq_of_lt (by omega)]
def ar (s:Bs):Nat:=s.foldl (fun x c=>x*256+c.toNat) 0
theorem iU (s:Bs) (c:UInt8):ar (s++[c])=ar s*256+c.toNat:=by simp [ar,List.foldl_append]
theorem pS (t:Bs):∀ x:Nat,t.foldl (fun x c=>x*256+c.toNat) x=x*256 ^ t.length+ar t:=by
 induction t with
 | nil=>intro x;simp [ar]
 | cons c r ih=>
  intro x;have h0:=ih (0*256+c.toNat);rw [List.foldl_cons,ih,show ar (c::r)=(0*256+c.toNat)*256 ^ r.length+ar r from h0,List.length_cons,Nat.pow_succ,Nat.add_mul,Nat.zero_mul,Nat.zero_add,Nat.mul_assoc,Nat.mul_comm 256,Nat.add_assoc]
theorem th (s t:Bs):ar (s++t)=ar s*256 ^ t.length+ar t:=by
 rw [ar,List.foldl_append,pS];rfl
theorem jH (s:Bs):ar s<256 ^ s.length:=by
 induction s with
 | nil=>simp [ar]
 | cons c r ih=>
  have hc:=c.toNat_lt;rw [ar,List.foldl_cons,pS,List.length_cons,Nat.pow_succ,Nat.zero_mul,Nat.zero_add];have h1:c.toNat*256 ^ r.length<=255*256 ^ r.length:=Nat.mul_le_mul_right _ (by omega);omega
def dD (s:Bs) (i m:Nat):Nat:=ar ((s.drop (8*i)).take m)
theorem CW {s:Bs} {i m:Nat} (h:8*i+m<s.length):dD s i (m+1)=dD s i m*256+(s.getD (8*i+m) 0).toNat:=by
 unfold dD;have h2:m<(s.drop (8*i)).length:=by rw [List.length_drop];omega
 rw [List.take_succ_eq_append_getElem h2,iU,List.getElem_drop,List.getD_eq_getElem?_getD,List.getElem?_eq_getElem h];rfl
theorem Aq (s:Bs) (i m:Nat):dD s i m<256 ^ m:=by
 unfold dD;have h1:=jH ((s.drop (8*i)).take m);refine Nat.lt_of_lt_of_le h1 (Nat.pow_le_pow_right (by decide) ?_);rw [List.length_take];omega
theorem K0 {s:Bs} {i m:Nat} (h:8*i+m<s.length) (hm:m<8):bits .or .u64 ((dD s i m:Int)*256 % 18446744073709551616) ((s.getD (8*i+m) 0).toNat:Int)=(dD s i (m+1):Int):=by
 have h1:=Aq s i m;have h3:256 ^ m<=256 ^ 7:=Nat.pow_le_pow_right (by decide) (by omega);have h4:=(s.getD (8*i+m) 0).toNat_lt;rw [CW h];generalize dD s i m=x at *;generalize (s.getD (8*i+m) 0).toNat=c at *;have e1:(x:Int)*256 % 18446744073709551616=((x*2 ^ 8:Nat):Int):=by omega
 rw [e1,bits_or_u64_nat _ _ (by omega) (by omega),ry _ _ _ (by omega)]
def ic (s:Bs):Nat->List Nat
 | 0=>[0,0,0,0]
 | i+1=>(ic s i).set (3 - i) (dD s i 8)
theorem nL (s:Bs):∀ i,(ic s i).length=4
 | 0=>rfl
 | i+1=>by rw [ic,List.length_set,nL s i]
theorem GL (s:Bs):∀ i,i<4->(ic s i).getD (3 - i) 0=0
 | 0,_=>rfl
 | 1,_=>rfl
 | 2,_=>rfl
 | 3,_=>rfl
theorem Ar {s:Bs} (h:s.length=32):ic s 4=dR 4 (ar s):=by
 have e0:ic s 4=[dD s 3 8,dD s 2 8,dD s 1 8,dD s 0 8]:=rfl;have k:∀ i,dD s i 8<18446744073709551616:=fun i=>Aq s i 8;have hw:js (ic s 4):=by
  rw [e0];intro y hy;simp at hy;rcases hy with rfl|rfl|rfl|rfl<;>exact k _
 refine xU rfl hw ?_;rw [e0];simp only [val];have hs:s=s.take 8++((s.drop 8).take 8++((s.drop 16).take 8++(s.drop 24).take 8)):=by
  conv=>lhs;rw [<- List.take_append_drop 8 s]
  congr 1
  conv=>lhs;rw [<- List.take_append_drop 8 (s.drop 8),List.drop_drop]
  congr 1
  conv=>lhs;rw [<- List.take_append_drop 8 (s.drop (8+8)),List.drop_drop]
  congr 1
  rw [List.take_of_length_le (by rw [List.length_drop];omega)]
 have e:ar s=ar (s.take 8++((s.drop 8).take 8++((s.drop 16).take 8++(s.drop 24).take 8))):=by rw [<- hs]
 rw [e,th,th,th];simp only [List.length_append,List.length_take,List.length_drop,h];unfold dD;simp only [Nat.mul_zero,List.drop_zero,Nat.reduceMul];generalize ar (s.take 8)=a;generalize ar ((s.drop 8).take 8)=b;generalize ar ((s.drop 16).take 8)=c;generalize ar ((s.drop 24).take 8)=d;simp;omega
def jL:Nat:=41058363725152142129326129780047268409114441015993725554835256314039467401291
def lD (x:Nat):Nat:=(((x*(x*x % pP) % pP)+(pP - (3*x % pP) % pP) % pP) % pP+jL) % pP
def ZH (X Y:Bs):Bool:=decide (ar X<pP)&&decide (ar Y<pP)&&decide (ar Y*ar Y % pP=lD (ar X))
def uh (X Y:Bs):Bool:=decide (X.length=32)&&decide (Y.length=32)&&ZH X Y
structure Ky where
 kty:Int
 kid:Bs
 alg:Bs
 n:Bs
 e:Bs
 x:Bs
 y:Bs
 sec:Bs
def kz:Ky:=⟨0,[],[],[],[],[],[],[]⟩
def fK (s:Bs):Bool:=s.all (fun c=>decide (33<=c.toNat)&&decide (c.toNat<=126))&&decide (s.length<=64)
def rD (s:Bs):Bs:=Lib.trimLeftS s [0]
def je (s:Bs):Int:=match rD s with
 | []=>0
 | c::r=>8*((c::r).length:Int) - (8 - (Lib.bitLen c.toNat:Int))
def rE (s:Bs):Bool:=match s with
 | []=>false
 | c::r=>c != 0&&(((c::r).getLast?.getD 0).toNat % 2==1)
def pr (n e:Bs):Bool:=rE n&&rE e&&decide (512<=je n)&&decide (je n<=2048)&&decide (2<=je e)&&decide (je e<=32)
def bN (k:Ky):Bool:=
 if k.kty=0 then k.x.isEmpty&&k.y.isEmpty&&k.sec.isEmpty&&pr k.n k.e
 else if k.kty=1 then k.n.isEmpty&&k.e.isEmpty&&k.sec.isEmpty&&uh k.x k.y
 else if k.kty=2 then k.n.isEmpty&&k.e.isEmpty&&k.x.isEmpty&&k.y.isEmpty && !k.sec.isEmpty&&decide (k.sec.length<=128)
 else false
def cI (k:Ky):Bool:=fK k.kid&&fK k.alg&&bN k
def dW:Bs:=[97,108,103]
def jj:Bs:=[99,114,118]
def nE:Bs:=[101]
def nK:Bs:=[107]
def cD:Bs:=[107,105,100]
def bm:Bs:=[107,116,121]
def nN:Bs:=[110]
def nX:Bs:=[120]
def nY:Bs:=[121]
def kg:Bs:=[107,101,121,115]
def jw:Bs:=[82,83,65]
def qB:Bs:=[69,67]
def eH:Bs:=[111,99,116]
def gQ:Bs:=[80,45,50,53,54]
def az (k:Ky):List (Bs×Bs):=
 if k.kty=0 then [(nE,aX k.e),(bm,jw),(nN,aX k.n)]
 else if k.kty=1 then [(jj,gQ),(bm,qB),(nX,aX k.x),(nY,aX k.y)]
 else [(nK,aX k.sec),(bm,eH)]
def textJ (t:Bs):Jv:=.mk 4 0 t [] []
def cE (l:List (Bs×Bs)):Jv:=.mk 6 0 [] (l.map (fun p=>textJ p.2)) (l.map (fun p=>p.1))
def kf (nm t:Bs):List (Bs×Bs):=if t.isEmpty then [] else [(nm,t)]
def eI (k:Ky):List (Bs×Bs):=
 if k.kty=0 then kf dW k.alg++[(nE,aX k.e)]++kf cD k.kid++[(bm,jw),(nN,aX k.n)]
 else if k.kty=1 then kf dW k.alg++[(jj,gQ)]++kf cD k.kid++[(bm,qB),(nX,aX k.x),(nY,aX k.y)]
 else kf dW k.alg++[(nK,aX k.sec)]++kf cD k.kid++[(bm,eH)]
def lr (k:Ky):Jv:=cE (eI k)
def bD (k:Ky):Jv:=cE (az k)
def oc (nm:Bs):List Bs->Option Nat
 | []=>none
 | k::r=>if k=nm then some 0 else (oc nm r).map (· + 1)
def dy (j:Jv) (nm:Bs):Option Jv:=if j.kind=6 then (oc nm j.keys).bind (fun i=>j.list[i]?) else none
def eS (j:Jv) (nm:Bs):Option Bs:=match dy j nm with
 | some x=>if x.kind=4 then some x.text else none
 | none=>none
def bytesK (j:Jv) (nm:Bs):Option Bs:=(eS j nm).bind fE
def gN (j:Jv) (nm:Bs):Option Bs:=match dy j nm with
 | none=>some []
 | some x=>if x.kind=4/\x.text≠[] then some x.text else none
def partsK (j:Jv):Option Ky:=match eS j bm with
 | none=>none
 | some s=>
  if s=jw then (bytesK j nN).bind (fun n=>(bytesK j nE).map (fun e=>⟨0,[],[],n,e,[],[],[]⟩))
  else if s=qB then (if eS j jj=some gQ then (bytesK j nX).bind (fun x=>(bytesK j nY).map (fun y=>⟨1,[],[],[],[],x,y,[]⟩)) else none)
  else if s=eH then (bytesK j nK).map (fun s=>⟨2,[],[],[],[],[],[],s⟩)
  else none
def gP (j:Jv):Option Ky:=(partsK j).bind (fun k=>(gN j dW).bind (fun a=>(gN j cD).map (fun i=>{ k with alg:=a,kid:=i })))
def DS (j:Jv):Option Ky:=if aw 0 j=0 then (match gP j with
 | some k=>if cI k then some k else none
 | none=>none) else none
def lk:List Ky->List Jv->Option (List Ky)
 | out,[]=>some out
 | out,j::r=>match DS j with
  | none=>none
  | some k=>if out.any (fun o=>decide (o.kid=k.kid)&&decide (k.kid≠[])) then none else lk (out++[k]) r
def zG (j:Jv):Option (List Ky):=if aw 0 j=0 then (match dy j kg with
 | some l=>if l.kind=5/\1<=l.list.length/\l.list.length<=8 then lk [] l.list else none
 | none=>none) else none
theorem J2 {k:Ky} (h:cI k=true):k.kty=0\/k.kty=1\/k.kty=2:=by
 simp only [cI,Bool.and_eq_true] at h;have h2:=h.2;unfold bN at h2;split at h2
 ·exact Or.inl (by assumption)
 ·split at h2
  ·exact Or.inr (Or.inl (by assumption))
  ·split at h2
   ·exact Or.inr (Or.inr (by assumption))
   ·cases h2
end Go.Proofs.YtbifjamddbpcjaaGreatDoor
