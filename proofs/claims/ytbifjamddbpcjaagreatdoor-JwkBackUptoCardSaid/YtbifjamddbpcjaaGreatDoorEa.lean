/- Numbers of words of 64 bits, plainly. -/
import Derived.Test.YtbifjamddbpcjaaGreatDoorW
import Derived.Test.YtbifjamddbpcjaaGreatDoorJl
import Derived.Laws.Bits64b
import Derived.Lib.Bytealg
import Derived.Lib.ValidLaws
import Derived.Lib.BitFns
namespace Go.Proofs.YtbifjamddbpcjaaGreatDoor
open Go.RowKit
def val:List Nat→Nat
 | []=>0
 | x::r=>x+18446744073709551616*val r
def InW (l:List Nat):Prop:=∀ x∈l,x<18446744073709551616
abbrev u64C (l:List Nat):Array Value:=(l.map (fun x:Nat=>Value.int .u64 (x:Int))).toArray
theorem InW.head {x:Nat} {r:List Nat} (h:InW (x::r)):x<18446744073709551616:=h x (by simp)
theorem InW.tail {x:Nat} {r:List Nat} (h:InW (x::r)):InW r:=fun y hy=>h y (by simp [hy])
theorem InW.set {l:List Nat} (h:InW l) (i x:Nat) (hx:x<18446744073709551616):InW (l.set i x):=by
 intro y hy
 rcases List.mem_or_eq_of_mem_set hy with h1|rfl
 ·exact h y h1
 ·exact hx
theorem InW.at {l:List Nat} (h:InW l) (i:Nat):l.getD i 0<18446744073709551616:=by
 rw [List.getD_eq_getElem?_getD]
 by_cases hi:i<l.length
 ·rw [List.getElem?_eq_getElem hi];exact h _ (List.getElem_mem hi)
 ·rw [List.getElem?_eq_none (by omega)];decide
theorem val_inj:∀ {a b:List Nat},InW a→InW b→a.length=b.length→val a=val b→a=b
 | [],[],_,_,_,_=>rfl
 | [],_::_,_,_,h,_=>by simp at h
 | _::_,[],_,_,h,_=>by simp at h
 | x::r,y::s,ha,hb,h,hv=>by
  have h1:=ha.head
  have h2:=hb.head
  simp only [val] at hv
  have hxy:x=y:=by omega
  have hrs:val r=val s:=by omega
  rw [hxy,val_inj ha.tail hb.tail (by simpa using h) hrs]
theorem val_lt:∀ {a:List Nat},InW a→val a<18446744073709551616 ^ a.length
 | [],_=>by simp [val]
 | x::r,h=>by
  have h1:=h.head
  have h2:=val_lt h.tail
  rw [val,List.length_cons,Nat.pow_succ]
  omega
theorem val_set:∀ (l:List Nat) (i x:Nat),i<l.length→val (l.set i x)+l.getD i 0*18446744073709551616 ^ i=val l+x*18446744073709551616 ^ i
 | [],i,_,h=>by simp at h
 | y::r,0,x,_=>by simp [val];omega
 | y::r,i+1,x,h=>by
  have:=val_set r i x (by simpa using h)
  simp only [List.set_cons_succ,val,List.getD_cons_succ,Nat.pow_succ]
  have e1:r.getD i 0*(18446744073709551616 ^ i*18446744073709551616)=18446744073709551616*(r.getD i 0*18446744073709551616 ^ i):=by rw [← Nat.mul_assoc,Nat.mul_comm]
  have e2:x*(18446744073709551616 ^ i*18446744073709551616)=18446744073709551616*(x*18446744073709551616 ^ i):=by rw [← Nat.mul_assoc,Nat.mul_comm]
  rw [e1,e2]
  omega
theorem val_take (l:List Nat) (i:Nat) (h:i<l.length):val (l.take (i+1))=val (l.take i)+l.getD i 0*18446744073709551616 ^ i:=by
 induction l generalizing i with
 | nil=>simp at h
 | cons y r ih=>
  cases i with
  | zero=>simp [val]
  | succ i=>
   have:=ih i (by simpa using h)
   rw [List.take_succ_cons,List.take_succ_cons,val,val,this,List.getD_cons_succ,Nat.pow_succ]
   have e1:r.getD i 0*(18446744073709551616 ^ i*18446744073709551616)=18446744073709551616*(r.getD i 0*18446744073709551616 ^ i):=by rw [← Nat.mul_assoc,Nat.mul_comm]
   rw [e1]
   omega
theorem u64C_size (l:List Nat):(u64C l).size=l.length:=by simp [u64C]
theorem u64C_get {l:List Nat} {i:Nat} (h:i<l.length):(u64C l)[i]?=some (.int .u64 (l.getD i 0:Nat)):=by simp [u64C,h,List.getD_eq_getElem?_getD]
theorem u64C_set (l:List Nat) (i x:Nat):(u64C l).setIfInBounds i (.int .u64 (x:Int))=u64C (l.set i x):=by
 apply Array.ext'
 simp [u64C]
def lessM (a b:List Nat):Nat→List Nat×Nat
 | 0=>(a,0)
 | i+1=>((lessM a b i).1.set i (((lessM a b i).1.getD i 0+18446744073709551616 - b.getD i 0 - (lessM a b i).2) % 18446744073709551616),if (lessM a b i).1.getD i 0<b.getD i 0+(lessM a b i).2 then 1 else 0)
theorem less_len (a b:List Nat):∀ i,(lessM a b i).1.length=a.length
 | 0=>rfl
 | i+1=>by rw [lessM];simp [less_len a b i]
theorem less_low (a b:List Nat):∀ i,(lessM a b i).2≤1
 | 0=>by simp [lessM]
 | i+1=>by rw [lessM];dsimp only;split<;>omega
theorem less_key {a0 a1 a2 a3 b0 b1 b2 b3 x0 x1 x2 x3 c1 c2 c3 c4:Nat} (e1:a0+18446744073709551616*c1=b0+x0) (e2:a1+18446744073709551616*c2=b1+c1+x1) (e3:a2+18446744073709551616*c3=b2+c2+x2) (e4:a3+18446744073709551616*c4=b3+c3+x3) :
  val [a0,a1,a2,a3]+115792089237316195423570985008687907853269984665640564039457584007913129639936*c4=val [b0,b1,b2,b3]+val [x0,x1,x2,x3]:=by
 simp only [val,Nat.mul_zero,Nat.add_zero]
 omega
theorem less_step {x y c:Nat} (hx:x<18446744073709551616) (hy:y<18446744073709551616) (hc:c≤1) :
  x+18446744073709551616*(if x<y+c then 1 else 0)=y+c+(x+18446744073709551616 - y - c) % 18446744073709551616:=by
 by_cases h:x<y+c
 ·rw [if_pos h];omega
 ·rw [if_neg h];omega
theorem less_end {n m x c:Nat} (hn:n<115792089237316195423570985008687907853269984665640564039457584007913129639936) (hm:m<115792089237316195423570985008687907853269984665640564039457584007913129639936) (hx:x<115792089237316195423570985008687907853269984665640564039457584007913129639936) (hc:c≤1)
  (h:n+115792089237316195423570985008687907853269984665640564039457584007913129639936*c=m+x):x=(n+115792089237316195423570985008687907853269984665640564039457584007913129639936 - m) % 115792089237316195423570985008687907853269984665640564039457584007913129639936∧c=if n<m then 1 else 0:=by
 by_cases h0:n<m
 ·rw [if_pos h0]
  obtain rfl:c=1:=by omega
  refine ⟨?_,rfl⟩
  rw [Nat.mod_eq_of_lt (by omega)];omega
 ·rw [if_neg h0]
  obtain rfl:c=0:=by omega
  refine ⟨?_,rfl⟩
  rw [show n+115792089237316195423570985008687907853269984665640564039457584007913129639936 - m=(n - m)+115792089237316195423570985008687907853269984665640564039457584007913129639936 by omega,Nat.add_mod_right,Nat.mod_eq_of_lt (by omega)];omega
theorem less_inW {a b:List Nat} (wa:InW a):∀ i,InW (lessM a b i).1
 | 0=>wa
 | i+1=>(less_inW wa i).set _ _ (Nat.mod_lt _ (by decide))
theorem val_lt4 {a:List Nat} (h:InW a) (hl:a.length=4):val a<115792089237316195423570985008687907853269984665640564039457584007913129639936:=by
 have:=val_lt h
 rw [hl] at this
 exact this
theorem less_four (a b:List Nat) (ha:a.length=4) (hb:b.length=4) (wa:InW a) (wb:InW b) :
  val (lessM a b 4).1=(val a+115792089237316195423570985008687907853269984665640564039457584007913129639936 - val b) % 115792089237316195423570985008687907853269984665640564039457584007913129639936∧(lessM a b 4).2=if val a<val b then 1 else 0:=by
 refine less_end (val_lt4 wa ha) (val_lt4 wb hb) (val_lt4 (less_inW wa 4) (by rw [less_len,ha])) (less_low a b 4) ?_
 match a,ha,b,hb with
 | [a0,a1,a2,a3],_,[b0,b1,b2,b3],_=>
  have e1:=less_step (wa a0 (by simp)) (wb b0 (by simp)) (Nat.zero_le 1)
  have l2:=less_low [a0,a1,a2,a3] [b0,b1,b2,b3] 1
  have e2:=less_step (wa a1 (by simp)) (wb b1 (by simp)) l2
  have l3:=less_low [a0,a1,a2,a3] [b0,b1,b2,b3] 2
  have e3:=less_step (wa a2 (by simp)) (wb b2 (by simp)) l3
  have l4:=less_low [a0,a1,a2,a3] [b0,b1,b2,b3] 3
  have e4:=less_step (wa a3 (by simp)) (wb b3 (by simp)) l4
  exact less_key e1 e2 e3 e4
def sumM (a b:List Nat):Nat→List Nat×Nat
 | 0=>(a,0)
 | i+1=>((sumM a b i).1.set i (((sumM a b i).1.getD i 0+b.getD i 0+(sumM a b i).2) % 18446744073709551616),((sumM a b i).1.getD i 0+b.getD i 0+(sumM a b i).2) / 18446744073709551616)
theorem sum_len (a b:List Nat):∀ i,(sumM a b i).1.length=a.length
 | 0=>rfl
 | i+1=>by rw [sumM];simp [sum_len a b i]
theorem sum_inW {a b:List Nat} (wa:InW a) (i:Nat):InW (sumM a b i).1:=by
 induction i with
 | zero=>exact wa
 | succ i ih=>exact ih.set i _ (Nat.mod_lt _ (by decide))
theorem sum_low {a b:List Nat} (wa:InW a) (wb:InW b):∀ i,(sumM a b i).2≤1
 | 0=>by simp [sumM]
 | i+1=>by
  have h1:=sum_low wa wb i
  have h2:=(sum_inW (b:=b) wa i).at i
  have h3:=wb.at i
  rw [sumM];dsimp only
  omega
theorem sum_val (a b:List Nat) (hl:b.length=a.length):∀ i,i≤a.length→(∀ k,i≤k→(sumM a b i).1.getD k 0=a.getD k 0)∧val (sumM a b i).1+(sumM a b i).2*18446744073709551616 ^ i=val a+val (b.take i)
 | 0,_=>⟨fun _ _=>rfl,by simp [sumM,val]⟩
 | i+1,h=>by
  obtain ⟨k1,k2⟩:=sum_val a b hl i (by omega)
  have hlen:=sum_len a b i
  refine ⟨fun k hk => ?_,?_⟩
  ·rw [sumM];dsimp only
   rw [← k1 k (by omega),List.getD_eq_getElem?_getD,List.getElem?_set_ne (by omega),← List.getD_eq_getElem?_getD]
  ·rw [val_take b i (by omega)]
   have hv:=val_set (sumM a b i).1 i (((sumM a b i).1.getD i 0+b.getD i 0+(sumM a b i).2) % 18446744073709551616) (by omega)
   rw [sumM];dsimp only
   generalize (sumM a b i).1.set i _=L' at *
   generalize (sumM a b i).1.getD i 0=x at *
   generalize b.getD i 0=y at *
   generalize (sumM a b i).2=c at *
   have hd:=Nat.div_add_mod (x+y+c) 18446744073709551616
   generalize (x+y+c) % 18446744073709551616=m at *
   generalize (x+y+c) / 18446744073709551616=d at *
   rw [Nat.pow_succ]
   generalize 18446744073709551616 ^ i=Z at *
   have e1:d*(Z*18446744073709551616)+m*Z=x*Z+y*Z+c*Z:=by
    rw [← Nat.add_mul,← Nat.add_mul,← hd,Nat.add_mul]
    congr 1
    rw [Nat.mul_comm Z,← Nat.mul_assoc,Nat.mul_comm d]
   omega
theorem mul_room {x y c o:Nat} (hx:x<18446744073709551616) (hy:y<18446744073709551616) (hc:c<18446744073709551616) (ho:o<18446744073709551616):(x*y+c+o) / 18446744073709551616<18446744073709551616:=by
 have h:x*y≤18446744073709551615*18446744073709551615:=Nat.mul_le_mul (by omega) (by omega)
 omega
def rowM (x:Nat) (b:List Nat) (i:Nat) (out:List Nat):Nat→List Nat×Nat
 | 0=>(out,0)
 | k+1=>((rowM x b i out k).1.set (i+k) ((x*b.getD k 0+(rowM x b i out k).2+(rowM x b i out k).1.getD (i+k) 0) % 18446744073709551616),(x*b.getD k 0+(rowM x b i out k).2+(rowM x b i out k).1.getD (i+k) 0) / 18446744073709551616)
theorem row_len (x:Nat) (b:List Nat) (i:Nat) (out:List Nat):∀ k,(rowM x b i out k).1.length=out.length
 | 0=>rfl
 | k+1=>by rw [rowM];simp [row_len x b i out k]
theorem row_inW {x:Nat} {b:List Nat} {i:Nat} {out:List Nat} (wo:InW out):∀ k,InW (rowM x b i out k).1
 | 0=>wo
 | k+1=>(row_inW wo k).set _ _ (Nat.mod_lt _ (by decide))
theorem row_low {x:Nat} {b:List Nat} {i:Nat} {out:List Nat} (hx:x<18446744073709551616) (wb:InW b) (wo:InW out):∀ k,(rowM x b i out k).2<18446744073709551616
 | 0=>by simp [rowM]
 | k+1=>by rw [rowM];exact mul_room hx (wb.at k) (row_low hx wb wo k) ((row_inW wo k).at _)
theorem row_val (x:Nat) (b:List Nat) (i:Nat) (out:List Nat):∀ k,k≤b.length→i+k≤out.length→(∀ j,i+k≤j→(rowM x b i out k).1.getD j 0=out.getD j 0)∧val (rowM x b i out k).1+(rowM x b i out k).2*18446744073709551616 ^ (i+k)=val out+x*val (b.take k)*18446744073709551616 ^ i
 | 0,_,_=>⟨fun _ _=>rfl,by simp [rowM,val]⟩
 | k+1,h,h2=>by
  obtain ⟨k1,k2⟩:=row_val x b i out k (by omega) (by omega)
  have hlen:=row_len x b i out k
  refine ⟨fun j hj => ?_,?_⟩
  ·rw [rowM];dsimp only
   rw [← k1 j (by omega),List.getD_eq_getElem?_getD,List.getElem?_set_ne (by omega),← List.getD_eq_getElem?_getD]
  ·rw [val_take b k (by omega)]
   have hv:=val_set (rowM x b i out k).1 (i+k) ((x*b.getD k 0+(rowM x b i out k).2+(rowM x b i out k).1.getD (i+k) 0) % 18446744073709551616) (by omega)
   rw [rowM];dsimp only
   generalize (rowM x b i out k).1.set (i+k) _=L' at *
   generalize (rowM x b i out k).1.getD (i+k) 0=o at *
   generalize b.getD k 0=y at *
   generalize (rowM x b i out k).2=c at *
   have hd:=Nat.div_add_mod (x*y+c+o) 18446744073709551616
   generalize (x*y+c+o) % 18446744073709551616=m at *
   generalize (x*y+c+o) / 18446744073709551616=d at *
   rw [← Nat.add_assoc i k 1,Nat.pow_succ]
   rw [Nat.mul_add,Nat.add_mul,show x*(y*18446744073709551616 ^ k)*18446744073709551616 ^ i=x*y*18446744073709551616 ^ (i+k) by rw [Nat.pow_add];simp only [Nat.mul_assoc,Nat.mul_comm,Nat.mul_left_comm]]
   generalize 18446744073709551616 ^ (i+k)=Z at *
   have e1:d*(Z*18446744073709551616)+m*Z=x*y*Z+c*Z+o*Z:=by
    rw [← Nat.add_mul,← Nat.add_mul,← hd,Nat.add_mul]
    congr 1
    rw [Nat.mul_comm Z,← Nat.mul_assoc,Nat.mul_comm d]
   omega
def wideM (a b:List Nat):Nat→List Nat
 | 0=>[0,0,0,0,0,0,0,0]
 | i+1=>(rowM (a.getD i 0) b i (wideM a b i) 4).1.set (i+4) (rowM (a.getD i 0) b i (wideM a b i) 4).2
theorem wide_len (a b:List Nat):∀ i,(wideM a b i).length=8
 | 0=>rfl
 | i+1=>by rw [wideM,List.length_set,row_len,wide_len a b i]
theorem wide_inW {a b:List Nat} (wa:InW a) (wb:InW b):∀ i,InW (wideM a b i)
 | 0=>by intro y hy;simp [wideM] at hy;omega
 | i+1=>(row_inW (wide_inW wa wb i) 4).set _ _ (row_low (wa.at i) wb (wide_inW wa wb i) 4)
theorem wide_val (a b:List Nat) (ha:a.length=4) (hb:b.length=4):∀ i,i≤4→(∀ j,i+4≤j→(wideM a b i).getD j 0=0)∧val (wideM a b i)=val (a.take i)*val b
 | 0,_=>by
  refine ⟨fun j hj => ?_,by simp [wideM,val]⟩
  match j with
  | 0|1|2|3=>omega
  | 4|5|6|7=>rfl
  | j+8=>rfl
 | i+1,h=>by
  obtain ⟨k1,k2⟩:=wide_val a b ha hb i (by omega)
  have hlen:=wide_len a b i
  obtain ⟨r1,r2⟩:=row_val (a.getD i 0) b i (wideM a b i) 4 (by omega) (by omega)
  have hl2:=row_len (a.getD i 0) b i (wideM a b i) 4
  refine ⟨fun j hj => ?_,?_⟩
  ·rw [wideM,List.getD_eq_getElem?_getD,List.getElem?_set_ne (by omega),← List.getD_eq_getElem?_getD,r1 j (by omega),k1 j (by omega)]
  ·rw [wideM,val_take a i (by omega)]
   have hv:=val_set (rowM (a.getD i 0) b i (wideM a b i) 4).1 (i+4) (rowM (a.getD i 0) b i (wideM a b i) 4).2 (by omega)
   rw [r1 (i+4) (by omega),k1 (i+4) (by omega),Nat.zero_mul,Nat.add_zero] at hv
   rw [hv,r2,k2,Nat.add_mul,show b.take 4=b from List.take_of_length_le (by omega)]
   congr 1
   rw [Nat.mul_assoc,Nat.mul_comm (val b),← Nat.mul_assoc]
theorem wide_four {a b:List Nat} (ha:a.length=4) (hb:b.length=4):val (wideM a b 4)=val a*val b:=by
 rw [(wide_val a b ha hb 4 (by omega)).2,List.take_of_length_le (by omega)]
def wds:Nat→Nat→List Nat
 | 0,_=>[]
 | k+1,n=>n % 18446744073709551616::wds k (n / 18446744073709551616)
theorem wds_len:∀ k n,(wds k n).length=k
 | 0,_=>rfl
 | k+1,n=>by rw [wds,List.length_cons,wds_len k]
theorem wds_inW:∀ k n,InW (wds k n)
 | 0,_=>by intro y hy;simp [wds] at hy
 | k+1,n=>by
  intro y hy
  rw [wds,List.mem_cons] at hy
  rcases hy with rfl|hy
  ·exact Nat.mod_lt _ (by decide)
  ·exact wds_inW k _ y hy
theorem wds_val:∀ k n,n<18446744073709551616 ^ k→val (wds k n)=n
 | 0,n,h=>by simp at h;simp [wds,val,h]
 | k+1,n,h=>by
  rw [Nat.pow_succ] at h
  rw [wds,val,wds_val k (n / 18446744073709551616) (by omega)]
  omega
theorem wds_of {l:List Nat} (h:InW l):wds l.length (val l)=l:=
 val_inj (wds_inW _ _) h (wds_len _ _) (wds_val _ _ (val_lt h))
theorem wds_eq {k:Nat} {l:List Nat} {n:Nat} (hl:l.length=k) (h:InW l) (hv:val l=n):l=wds k n:=by rw [← hv,← hl,wds_of h]
theorem wds_inj {k n m:Nat} (hn:n<18446744073709551616 ^ k) (hm:m<18446744073709551616 ^ k):wds k n=wds k m ↔ n=m:=
 ⟨fun h=>by rw [← wds_val k n hn,h,wds_val k m hm],fun h=>by rw [h]⟩
def pP:Nat:=115792089210356248762697446949407573530086143415290314195533631308867097853951
def cP:Nat:=26959946660873538059280334323183841250350249843923952699046031785985
theorem or_i64 (a b:Nat) (ha:a<9223372036854775808) (hb:b<9223372036854775808):bits .or .i64 (a:Int) (b:Int)=((a ||| b:Nat):Int):=by
 have hx:a ||| b<2 ^ 63:=Nat.or_lt_two_pow (by omega) (by omega)
 have h1:(BitVec.ofInt 64 (a:Int)).toNat=a:=by
  rw [BitVec.ofInt_natCast,BitVec.toNat_ofNat];exact Nat.mod_eq_of_lt (by omega)
 have h2:(BitVec.ofInt 64 (b:Int)).toNat=b:=by
  rw [BitVec.ofInt_natCast,BitVec.toNat_ofNat];exact Nat.mod_eq_of_lt (by omega)
 show IntKind.i64.wrap ((BitVec.ofInt 64 (a:Int) ||| BitVec.ofInt 64 (b:Int)).toNat:Int)=_
 rw [BitVec.toNat_or,h1,h2,IntKind.wrap_i64]
 omega
theorem and_i64 (a b:Nat) (ha:a<9223372036854775808) (hb:b<9223372036854775808):bits .and .i64 (a:Int) (b:Int)=((a &&& b:Nat):Int):=by
 have hx:a &&& b<2 ^ 63:=Nat.and_lt_two_pow _ (by omega)
 have h1:(BitVec.ofInt 64 (a:Int)).toNat=a:=by
  rw [BitVec.ofInt_natCast,BitVec.toNat_ofNat];exact Nat.mod_eq_of_lt (by omega)
 have h2:(BitVec.ofInt 64 (b:Int)).toNat=b:=by
  rw [BitVec.ofInt_natCast,BitVec.toNat_ofNat];exact Nat.mod_eq_of_lt (by omega)
 show IntKind.i64.wrap ((BitVec.ofInt 64 (a:Int) &&& BitVec.ofInt 64 (b:Int)).toNat:Int)=_
 rw [BitVec.toNat_and,h1,h2,IntKind.wrap_i64]
 omega
theorem or_u8 (a b:Nat) (ha:a<256) (hb:b<256):bits .or .u8 (a:Int) (b:Int)=((a ||| b:Nat):Int):=by
 have hx:a ||| b<2 ^ 8:=Nat.or_lt_two_pow (by omega) (by omega)
 have h1:(BitVec.ofInt 8 (a:Int)).toNat=a:=by
  rw [BitVec.ofInt_natCast,BitVec.toNat_ofNat];exact Nat.mod_eq_of_lt (by omega)
 have h2:(BitVec.ofInt 8 (b:Int)).toNat=b:=by
  rw [BitVec.ofInt_natCast,BitVec.toNat_ofNat];exact Nat.mod_eq_of_lt (by omega)
 show IntKind.u8.wrap ((BitVec.ofInt 8 (a:Int) ||| BitVec.ofInt 8 (b:Int)).toNat:Int)=_
 rw [BitVec.toNat_or,h1,h2,IntKind.wrap_u8]
 omega
theorem or_sum (a b k:Nat) (h:b<2 ^ k):(a*2 ^ k) ||| b=a*2 ^ k+b:=by
 rw [← Nat.shiftLeft_eq,← Nat.shiftLeft_add_eq_or_of_lt h]
theorem or_two (a b k:Nat) (ha:a*2 ^ k<9223372036854775808) (hb:b<2 ^ k) (hk:2 ^ k≤9223372036854775808):bits .or .i64 ((a*2 ^ k:Nat):Int) (b:Int)=((a*2 ^ k+b:Nat):Int):=by
 rw [or_i64 _ _ ha (by omega),or_sum _ _ _ hb]
theorem or_three (a b c:UInt8):bits .or .i64 (bits .or .i64 ((a.toNat:Int)*65536) ((b.toNat:Int)*256)) (c.toNat:Int)=((a.toNat*65536+b.toNat*256+c.toNat:Nat):Int):=by
 have ha:=a.toNat_lt
 have hb:=b.toNat_lt
 have hc:=c.toNat_lt
 have e1:=or_two a.toNat (b.toNat*256) 16 (by omega) (by omega) (by omega)
 have e2:=or_two (a.toNat*256+b.toNat) c.toNat 8 (by omega) (by omega) (by omega)
 simp only [Nat.reducePow,Int.natCast_mul,Int.natCast_add,Int.cast_ofNat_Int] at e1 e2 ⊢
 rw [e1,show (a.toNat:Int)*65536+(b.toNat:Int)*256=((a.toNat:Int)*256+(b.toNat:Int))*256 by omega,e2]
theorem and63 (n:Nat) (h:n<9223372036854775808):bits .and .i64 (n:Int) 63=((n % 64:Nat):Int):=by
 have:=and_i64 n 63 h (by omega)
 rw [show n &&& 63=n % 64 from Nat.and_two_pow_sub_one_eq_mod n 6] at this
 exact this
def b64L:Bs:=[65,66,67,68,69,70,71,72,73,74,75,76,77,78,79,80,81,82,83,84,85,86,87,88,89,90,97,98,99,100,101,102,103,104,105,106,107,108,109,110,111,112,113,114,115,116,117,118,119,120,121,122,48,49,50,51,52,53,54,55,56,57,45,95]
def b64C (n:Nat):UInt8:=b64L.getD n 0
def b64P:Bs→Bs
 | a::b::c::r=>b64C (a.toNat / 4)::b64C ((a.toNat*16+b.toNat / 16) % 64)::b64C ((b.toNat*4+c.toNat / 64) % 64)::b64C (c.toNat % 64)::b64P r
 | [a,b]=>[b64C (a.toNat / 4),b64C ((a.toNat*16+b.toNat / 16) % 64),b64C (b.toNat*4 % 64)]
 | [a]=>[b64C (a.toNat / 4),b64C (a.toNat*16 % 64)]
 | []=>[]
def num64 (c:UInt8):Int:=Lib.indexByte b64L c
def nums64:Bs→Option (List Nat)
 | []=>some []
 | c::r=>if num64 c<0 then none else (nums64 r).map ((num64 c).toNat :: ·)
def unf64:List Nat→Option Bs
 | a::b::c::d::r=>(unf64 r).map ([(a*4+b / 16).toUInt8,(b % 16*16+c / 4).toUInt8,(c % 4*64+d).toUInt8] ++ ·)
 | [_]=>none
 | [a,b]=>if b % 16=0 then some [(a*4+b / 16).toUInt8] else none
 | [a,b,c]=>if c % 4=0 then some [(a*4+b / 16).toUInt8,(b % 16*16+c / 4).toUInt8] else none
 | []=>some []
def from64 (s:Bs):Option Bs:=(nums64 s).bind unf64
theorem letters_back:∀ n,n<64→num64 (b64C n)=(n:Int):=by decide +kernel
theorem nums_cons {n:Nat} (h:n<64) (r:Bs):nums64 (b64C n::r)=(nums64 r).map (n :: ·):=by
 rw [nums64,letters_back n h,if_neg (by omega)];rfl
def six:Bs→List Nat
 | a::b::c::r=>a.toNat / 4::(a.toNat*16+b.toNat / 16) % 64::(b.toNat*4+c.toNat / 64) % 64::c.toNat % 64::six r
 | [a,b]=>[a.toNat / 4,(a.toNat*16+b.toNat / 16) % 64,b.toNat*4 % 64]
 | [a]=>[a.toNat / 4,a.toNat*16 % 64]
 | []=>[]
theorem nums_six:∀ s:Bs,nums64 (b64P s)=some (six s)
 | a::b::c::r=>by
  have ha:=a.toNat_lt
  rw [b64P,nums_cons (by omega),nums_cons (by omega),nums_cons (by omega),nums_cons (by omega),nums_six r];rfl
 | [a,b]=>by
  have ha:=a.toNat_lt
  rw [b64P,nums_cons (by omega),nums_cons (by omega),nums_cons (by omega)];rfl
 | [a]=>by
  have ha:=a.toNat_lt
  rw [b64P,nums_cons (by omega),nums_cons (by omega)];rfl
 | []=>rfl
theorem byte_of {n:Nat} {b:UInt8} (h:n=b.toNat):n.toUInt8=b:=by rw [h];simp
theorem unf_six:∀ s:Bs,unf64 (six s)=some s
 | a::b::c::r=>by
  have ha:=a.toNat_lt;have hb:=b.toNat_lt;have hc:=c.toNat_lt
  rw [six,unf64,unf_six r,byte_of (b:=a) (by omega),byte_of (b:=b) (by omega),byte_of (b:=c) (by omega)];rfl
 | [a,b]=>by
  have ha:=a.toNat_lt;have hb:=b.toNat_lt
  rw [six,unf64,if_pos (by omega),byte_of (b:=a) (by omega),byte_of (b:=b) (by omega)]
 | [a]=>by
  have ha:=a.toNat_lt
  rw [six,unf64,if_pos (by omega),byte_of (b:=a) (by omega)]
 | []=>rfl
theorem from_b64 (s:Bs):from64 (b64P s)=some s:=by rw [from64,nums_six];exact unf_six s
theorem b64_len:∀ s:Bs,(b64P s).length=(4*s.length+2) / 3
 | a::b::c::r=>by simp only [b64P,List.length_cons,b64_len r];omega
 | [a,b]=>by simp [b64P]
 | [a]=>by simp [b64P]
 | []=>rfl
theorem b64C_low:∀ n,n<64→45≤(b64C n).toNat∧(b64C n).toNat≤122:=by decide +kernel
theorem b64_low:∀ s:Bs,∀ c∈b64P s,45≤c.toNat∧c.toNat≤122
 | a::b::c::r=>by
  have ha:=a.toNat_lt
  intro x hx
  simp only [b64P,List.mem_cons] at hx
  rcases hx with rfl|rfl|rfl|rfl|hx
  ·exact b64C_low _ (by omega)
  ·exact b64C_low _ (by omega)
  ·exact b64C_low _ (by omega)
  ·exact b64C_low _ (by omega)
  ·exact b64_low r x hx
 | [a,b]=>by
  have ha:=a.toNat_lt
  intro x hx
  simp only [b64P,List.mem_cons,List.not_mem_nil,or_false] at hx
  rcases hx with rfl|rfl|rfl
  ·exact b64C_low _ (by omega)
  ·exact b64C_low _ (by omega)
  ·exact b64C_low _ (by omega)
 | [a]=>by
  have ha:=a.toNat_lt
  intro x hx
  simp only [b64P,List.mem_cons,List.not_mem_nil,or_false] at hx
  rcases hx with rfl|rfl
  ·exact b64C_low _ (by omega)
  ·exact b64C_low _ (by omega)
 | []=>by intro x hx;simp [b64P] at hx
theorem pow4:18446744073709551616 ^ 4=115792089237316195423570985008687907853269984665640564039457584007913129639936:=by decide
theorem pow8:18446744073709551616 ^ 8=115792089237316195423570985008687907853269984665640564039457584007913129639936*115792089237316195423570985008687907853269984665640564039457584007913129639936:=by decide
theorem val_app:∀ (a b:List Nat),val (a++b)=val a+18446744073709551616 ^ a.length*val b
 | [],b=>by simp [val]
 | x::r,b=>by
  rw [List.cons_append,val,val,val_app r b,List.length_cons,Nat.pow_succ,Nat.mul_add,Nat.mul_comm (18446744073709551616 ^ r.length) 18446744073709551616,Nat.mul_assoc,Nat.add_assoc]
theorem val_split (l:List Nat) (k:Nat) (h:k≤l.length):val l=val (l.take k)+18446744073709551616 ^ k*val (l.drop k):=by
 have:=val_app (l.take k) (l.drop k)
 rwa [List.take_append_drop,List.length_take,Nat.min_eq_left h] at this
theorem InW.take {l:List Nat} (h:InW l) (k:Nat):InW (l.take k):=fun x hx=>h x (List.mem_of_mem_take hx)
theorem InW.drop {l:List Nat} (h:InW l) (k:Nat):InW (l.drop k):=fun x hx=>h x (List.mem_of_mem_drop hx)
def downP (v:Nat):Nat:=v / 115792089237316195423570985008687907853269984665640564039457584007913129639936*cP+v % 115792089237316195423570985008687907853269984665640564039457584007913129639936
theorem down_mod (v:Nat):downP v % pP=v % pP:=by
 unfold downP
 have h:=Nat.div_add_mod v 115792089237316195423570985008687907853269984665640564039457584007913129639936
 generalize v / 115792089237316195423570985008687907853269984665640564039457584007913129639936=q at *
 generalize v % 115792089237316195423570985008687907853269984665640564039457584007913129639936=r at *
 rw [← h]
 have e:115792089237316195423570985008687907853269984665640564039457584007913129639936*q+r=q*cP+r+pP*q:=by unfold cP pP;omega
 rw [e,Nat.add_mul_mod_self_left]
theorem down_lt {v:Nat} (h:115792089237316195423570985008687907853269984665640564039457584007913129639936≤v):downP v<v:=by
 unfold downP
 have h1:=Nat.div_add_mod v 115792089237316195423570985008687907853269984665640564039457584007913129639936
 have h2:0<v / 115792089237316195423570985008687907853269984665640564039457584007913129639936:=Nat.div_pos h (by decide)
 generalize v / 115792089237316195423570985008687907853269984665640564039457584007913129639936=q at *
 generalize v % 115792089237316195423570985008687907853269984665640564039457584007913129639936=r at *
 unfold cP
 omega
theorem down_of {l:List Nat} (hl:l.length=8) (h:InW l):downP (val l)=val (l.drop 4)*cP+val (l.take 4):=by
 have h1:=val_split l 4 (by omega)
 have h2:=val_lt (h.take 4)
 rw [List.length_take,Nat.min_eq_left (by omega),pow4] at h2
 rw [pow4] at h1
 unfold downP
 rw [h1]
 generalize val (l.take 4)=lo at *
 generalize val (l.drop 4)=hi at *
 rw [Nat.add_mul_div_left _ _ (by decide),Nat.div_eq_of_lt h2,Nat.zero_add,Nat.add_mul_mod_self_left,Nat.mod_eq_of_lt h2]
theorem down_room {l:List Nat} (hl:l.length=8) (h:InW l):val (l.drop 4)*cP+val (l.take 4)<18446744073709551616 ^ 8:=by
 have h2:=val_lt (h.take 4)
 have h3:=val_lt (h.drop 4)
 rw [List.length_take,Nat.min_eq_left (by omega),pow4] at h2
 rw [List.length_drop,hl,pow4] at h3
 rw [pow8]
 generalize val (l.take 4)=lo at *
 generalize val (l.drop 4)=hi at *
 unfold cP
 omega
theorem p_lt:pP<115792089237316195423570985008687907853269984665640564039457584007913129639936:=by decide
theorem p_half:115792089237316195423570985008687907853269984665640564039457584007913129639936<2*pP:=by decide
theorem less_mod {n:Nat} (h:n<2*pP):n % pP=if n<pP then n else n - pP:=by
 split
 ·exact Nat.mod_eq_of_lt (by assumption)
 ·rw [Nat.mod_eq_sub_mod (by omega),Nat.mod_eq_of_lt (by omega)]
def natB (s:Bs):Nat:=s.foldl (fun x c=>x*256+c.toNat) 0
theorem natB_snoc (s:Bs) (c:UInt8):natB (s++[c])=natB s*256+c.toNat:=by simp [natB,List.foldl_append]
theorem natB_from (t:Bs):∀ x:Nat,t.foldl (fun x c=>x*256+c.toNat) x=x*256 ^ t.length+natB t:=by
 induction t with
 | nil=>intro x;simp [natB]
 | cons c r ih=>
  intro x
  have h0:=ih (0*256+c.toNat)
  rw [List.foldl_cons,ih,show natB (c::r)=(0*256+c.toNat)*256 ^ r.length+natB r from h0,List.length_cons,Nat.pow_succ,Nat.add_mul,Nat.zero_mul,Nat.zero_add,Nat.mul_assoc,Nat.mul_comm 256,Nat.add_assoc]
theorem natB_app (s t:Bs):natB (s++t)=natB s*256 ^ t.length+natB t:=by
 rw [natB,List.foldl_append,natB_from];rfl
theorem natB_lt (s:Bs):natB s<256 ^ s.length:=by
 induction s with
 | nil=>simp [natB]
 | cons c r ih=>
  have hc:=c.toNat_lt
  rw [natB,List.foldl_cons,natB_from,List.length_cons,Nat.pow_succ,Nat.zero_mul,Nat.zero_add]
  have h1:c.toNat*256 ^ r.length≤255*256 ^ r.length:=Nat.mul_le_mul_right _ (by omega)
  omega
def wordN (s:Bs) (i m:Nat):Nat:=natB ((s.drop (8*i)).take m)
theorem wordN_next {s:Bs} {i m:Nat} (h:8*i+m<s.length):wordN s i (m+1)=wordN s i m*256+(s.getD (8*i+m) 0).toNat:=by
 unfold wordN
 have h2:m<(s.drop (8*i)).length:=by rw [List.length_drop];omega
 rw [List.take_succ_eq_append_getElem h2,natB_snoc,List.getElem_drop,List.getD_eq_getElem?_getD,List.getElem?_eq_getElem h];rfl
theorem wordN_lt (s:Bs) (i m:Nat):wordN s i m<256 ^ m:=by
 unfold wordN
 have h1:=natB_lt ((s.drop (8*i)).take m)
 refine Nat.lt_of_lt_of_le h1 (Nat.pow_le_pow_right (by decide) ?_)
 rw [List.length_take];omega
theorem wordN_or {s:Bs} {i m:Nat} (h:8*i+m<s.length) (hm:m<8):bits .or .u64 ((wordN s i m:Int)*256 % 18446744073709551616) ((s.getD (8*i+m) 0).toNat:Int)=(wordN s i (m+1):Int):=by
 have h1:=wordN_lt s i m
 have h3:256 ^ m≤256 ^ 7:=Nat.pow_le_pow_right (by decide) (by omega)
 have h4:=(s.getD (8*i+m) 0).toNat_lt
 rw [wordN_next h]
 generalize wordN s i m=x at *
 generalize (s.getD (8*i+m) 0).toNat=c at *
 have e1:(x:Int)*256 % 18446744073709551616=((x*2 ^ 8:Nat):Int):=by omega
 rw [e1,bits_or_u64_nat _ _ (by omega) (by omega),or_sum _ _ _ (by omega)]
def wordsN (s:Bs):Nat→List Nat
 | 0=>[0,0,0,0]
 | i+1=>(wordsN s i).set (3 - i) (wordN s i 8)
theorem wordsN_len (s:Bs):∀ i,(wordsN s i).length=4
 | 0=>rfl
 | i+1=>by rw [wordsN,List.length_set,wordsN_len s i]
theorem wordsN_at (s:Bs):∀ i,i<4→(wordsN s i).getD (3 - i) 0=0
 | 0,_=>rfl
 | 1,_=>rfl
 | 2,_=>rfl
 | 3,_=>rfl
theorem wordsN_four {s:Bs} (h:s.length=32):wordsN s 4=wds 4 (natB s):=by
 have e0:wordsN s 4=[wordN s 3 8,wordN s 2 8,wordN s 1 8,wordN s 0 8]:=rfl
 have k:∀ i,wordN s i 8<18446744073709551616:=fun i=>wordN_lt s i 8
 have hw:InW (wordsN s 4):=by
  rw [e0];intro y hy
  simp at hy
  rcases hy with rfl|rfl|rfl|rfl<;>exact k _
 refine wds_eq rfl hw ?_
 rw [e0]
 simp only [val]
 have hs:s=s.take 8++((s.drop 8).take 8++((s.drop 16).take 8++(s.drop 24).take 8)):=by
  conv=>lhs;rw [← List.take_append_drop 8 s]
  congr 1
  conv=>lhs;rw [← List.take_append_drop 8 (s.drop 8),List.drop_drop]
  congr 1
  conv=>lhs;rw [← List.take_append_drop 8 (s.drop (8+8)),List.drop_drop]
  congr 1
  rw [List.take_of_length_le (by rw [List.length_drop];omega)]
 have e:natB s=natB (s.take 8++((s.drop 8).take 8++((s.drop 16).take 8++(s.drop 24).take 8))):=by rw [← hs]
 rw [e,natB_app,natB_app,natB_app]
 simp only [List.length_append,List.length_take,List.length_drop,h]
 unfold wordN
 simp only [Nat.mul_zero,List.drop_zero,Nat.reduceMul]
 generalize natB (s.take 8)=a
 generalize natB ((s.drop 8).take 8)=b
 generalize natB ((s.drop 16).take 8)=c
 generalize natB ((s.drop 24).take 8)=d
 simp
 omega
def curveB:Nat:=41058363725152142129326129780047268409114441015993725554835256314039467401291
def rightP (x:Nat):Nat:=(((x*(x*x % pP) % pP)+(pP - (3*x % pP) % pP) % pP) % pP+curveB) % pP
def onP (X Y:Bs):Bool:=decide (natB X<pP)&&decide (natB Y<pP)&&decide (natB Y*natB Y % pP=rightP (natB X))
def ecP (X Y:Bs):Bool:=decide (X.length=32)&&decide (Y.length=32)&&onP X Y
structure Ky where
 kty:Int
 kid:Bs
 alg:Bs
 n:Bs
 e:Bs
 x:Bs
 y:Bs
 sec:Bs
def kz:Ky:=⟨0,[],[],[],[],[],[],[]⟩
def wordK (s:Bs):Bool:=s.all (fun c=>decide (33≤c.toNat)&&decide (c.toNat≤126))&&decide (s.length≤64)
def trim0 (s:Bs):Bs:=Lib.trimLeftS s [0]
def bitsP (s:Bs):Int:=match trim0 s with
 | []=>0
 | c::r=>8*((c::r).length:Int) - (8 - (Lib.bitLen c.toNat:Int))
def oddP (s:Bs):Bool:=match s with
 | []=>false
 | c::r=>c != 0&&(((c::r).getLast?.getD 0).toNat % 2==1)
def rsaP (n e:Bs):Bool:=oddP n&&oddP e&&decide (512≤bitsP n)&&decide (bitsP n≤2048)&&decide (2≤bitsP e)&&decide (bitsP e≤32)
def wantsK (k:Ky):Bool:=
 if k.kty=0 then k.x.isEmpty&&k.y.isEmpty&&k.sec.isEmpty&&rsaP k.n k.e
 else if k.kty=1 then k.n.isEmpty&&k.e.isEmpty&&k.sec.isEmpty&&ecP k.x k.y
 else if k.kty=2 then k.n.isEmpty&&k.e.isEmpty&&k.x.isEmpty&&k.y.isEmpty && !k.sec.isEmpty&&decide (k.sec.length≤128)
 else false
def kyOk (k:Ky):Bool:=wordK k.kid&&wordK k.alg&&wantsK k
def nAlg:Bs:=[97,108,103]
def nCrv:Bs:=[99,114,118]
def nE:Bs:=[101]
def nK:Bs:=[107]
def nKid:Bs:=[107,105,100]
def nKty:Bs:=[107,116,121]
def nN:Bs:=[110]
def nX:Bs:=[120]
def nY:Bs:=[121]
def nUse:Bs:=[117,115,101]
def nKeys:Bs:=[107,101,121,115]
def nRsa:Bs:=[82,83,65]
def nEc:Bs:=[69,67]
def nOct:Bs:=[111,99,116]
def nP256:Bs:=[80,45,50,53,54]
def membersK (k:Ky):List (Bs×Bs):=
 if k.kty=0 then [(nE,b64P k.e),(nKty,nRsa),(nN,b64P k.n)]
 else if k.kty=1 then [(nCrv,nP256),(nKty,nEc),(nX,b64P k.x),(nY,b64P k.y)]
 else [(nK,b64P k.sec),(nKty,nOct)]
def textJ (t:Bs):Jv:=.mk 4 0 t [] []
def objJ (l:List (Bs×Bs)):Jv:=.mk 6 0 [] (l.map (fun p=>textJ p.2)) (l.map (fun p=>p.1))
def optK (nm t:Bs):List (Bs×Bs):=if t.isEmpty then [] else [(nm,t)]
def sortedK (k:Ky):List (Bs×Bs):=
 if k.kty=0 then optK nAlg k.alg++[(nE,b64P k.e)]++optK nKid k.kid++[(nKty,nRsa),(nN,b64P k.n)]
 else if k.kty=1 then optK nAlg k.alg++[(nCrv,nP256)]++optK nKid k.kid++[(nKty,nEc),(nX,b64P k.x),(nY,b64P k.y)]
 else optK nAlg k.alg++[(nK,b64P k.sec)]++optK nKid k.kid++[(nKty,nOct)]
def valK (k:Ky):Jv:=objJ (sortedK k)
def thumbJ (k:Ky):Jv:=objJ (membersK k)
def plK (nm:Bs):List Bs→Option Nat
 | []=>none
 | k::r=>if k=nm then some 0 else (plK nm r).map (· + 1)
def gotP (j:Jv) (nm:Bs):Option Jv:=if j.kind=6 then (plK nm j.keys).bind (fun i=>j.list[i]?) else none
def toldK (j:Jv) (nm:Bs):Option Bs:=match gotP j nm with
 | some x=>if x.kind=4 then some x.text else none
 | none=>none
def bytesK (j:Jv) (nm:Bs):Option Bs:=(toldK j nm).bind from64
def wordQ (j:Jv) (nm:Bs):Option Bs:=match gotP j nm with
 | none=>some []
 | some x=>if x.kind=4∧x.text≠[] then some x.text else none
def partsK (j:Jv):Option Ky:=match toldK j nKty with
 | none=>none
 | some s=>
  if s=nRsa then (bytesK j nN).bind (fun n=>(bytesK j nE).map (fun e=>⟨0,[],[],n,e,[],[],[]⟩))
  else if s=nEc then (if toldK j nCrv=some nP256 then (bytesK j nX).bind (fun x=>(bytesK j nY).map (fun y=>⟨1,[],[],[],[],x,y,[]⟩)) else none)
  else if s=nOct then (bytesK j nK).map (fun s=>⟨2,[],[],[],[],[],[],s⟩)
  else none
def readK (j:Jv):Option Ky:=(partsK j).bind (fun k=>(wordQ j nAlg).bind (fun a=>(wordQ j nKid).map (fun i=>{ k with alg:=a,kid:=i })))
def ofK (j:Jv):Option Ky:=if checkP 0 j=0 then (match readK j with
 | some k=>if kyOk k then some k else none
 | none=>none) else none
def setGo:List Ky→List Jv→Option (List Ky)
 | out,[]=>some out
 | out,j::r=>match ofK j with
  | none=>none
  | some k=>if out.any (fun o=>decide (o.kid=k.kid)&&decide (k.kid≠[])) then none else setGo (out++[k]) r
def setK (j:Jv):Option (List Ky):=if checkP 0 j=0 then (match gotP j nKeys with
 | some l=>if l.kind=5∧1≤l.list.length∧l.list.length≤8 then setGo [] l.list else none
 | none=>none) else none
theorem ascii_valid:∀ {s:Bs},(∀ c∈s,c.toNat<128)→Lib.validD s=true
 | [],_=>rfl
 | c::r,h=>by rw [Lib.validD_cons c r (h c (by simp))];exact ascii_valid (fun x hx=>h x (by simp [hx]))
theorem word_valid {s:Bs} (h:wordK s=true):Lib.validD s=true:=by
 unfold wordK at h
 simp only [Bool.and_eq_true,List.all_eq_true,decide_eq_true_eq] at h
 exact ascii_valid (fun c hc=>by have:=(h.1 c hc).2;omega)
theorem b64_valid (s:Bs):Lib.validD (b64P s)=true:=ascii_valid (fun c hc=>by have:=(b64_low s c hc).2;omega)
theorem texts_check (n:Nat):∀ (l:List (Bs×Bs)),(∀ p∈l,Lib.validD p.2=true)→checksP n (l.map (fun p=>textJ p.2))=0
 | [],_=>by simp [checksP]
 | a::r,h=>by
  have ha:=h a (by simp)
  have hf:formP 4 0 a.2 ([]:List Jv).length []=true:=by simp [formP,nestK,keysOk,intIn,textIn,ha]
  have h1:checkP n (textJ a.2)=0:=by
   rw [textJ,checkP,hf,if_neg (by simp [nestK]),if_pos rfl,checksP]
  rw [List.map_cons,checksP,if_pos h1]
  exact texts_check n r (fun p hp=>h p (by simp [hp]))
theorem keys_valid {l:List (Bs×Bs)} (h:∀ p∈l,Lib.validD p.1=true):((l.map (fun p=>p.1)).all Lib.validD)=true:=by
 rw [List.all_eq_true]
 intro s hs
 obtain ⟨p,hp,rfl⟩:=List.mem_map.1 hs
 exact h p hp
theorem obj_form (n:Nat) (hn:n<32) (l:List (Bs×Bs)) (h1:(l.map (fun p=>p.1)).Nodup) (h2:∀ p∈l,Lib.validD p.1=true∧Lib.validD p.2=true):checkP n (objJ l)=0:=by
 have hf:formP 6 0 [] (l.map (fun p=>textJ p.2)).length (l.map (fun p=>p.1))=true:=by
  simp only [formP,nestK,keysOk,intIn,textIn,keys_valid (fun p hp=>(h2 p hp).1),List.length_map,h1];simp
 rw [objJ,checkP,hf,if_neg (by simp;omega),if_pos rfl]
 exact texts_check (n+1) l (fun p hp=>(h2 p hp).2)
def moreJ (nm:Bs) (l:List (Bs×Bs)):Jv:=.mk 6 0 [] (Jv.nul::l.map (fun p=>textJ p.2)) (nm::l.map (fun p=>p.1))
theorem nul_check (n:Nat):checkP n Jv.nul=0:=by
 rw [Jv.nul,checkP,if_neg (by simp [nestK]),if_pos (by simp [formP,nestK,keysOk,intIn,textIn]),checksP]
theorem more_form (n:Nat) (hn:n<32) (nm:Bs) (l:List (Bs×Bs)) (h0:Lib.validD nm=true) (h1:(nm::l.map (fun p=>p.1)).Nodup) (h2:∀ p∈l,Lib.validD p.1=true∧Lib.validD p.2=true):checkP n (moreJ nm l)=0:=by
 have hk:((nm::l.map (fun p=>p.1)).all Lib.validD)=true:=by rw [List.all_cons,h0,keys_valid (fun p hp=>(h2 p hp).1)];rfl
 have hf:formP 6 0 [] (Jv.nul::l.map (fun p=>textJ p.2)).length (nm::l.map (fun p=>p.1))=true:=by
  simp only [formP,nestK,keysOk,intIn,textIn,hk,List.length_map,List.length_cons,h1];simp
 rw [moreJ,checkP,hf,if_neg (by simp;omega),if_pos rfl,checksP,if_pos (nul_check _)]
 exact texts_check (n+1) l (fun p hp=>(h2 p hp).2)
def lk:List (Bs×Bs)→Bs→Option Bs
 | [],_=>none
 | a::r,nm=>if a.1=nm then some a.2 else lk r nm
theorem got_obj:∀ (l:List (Bs×Bs)) (nm:Bs),(plK nm (l.map (fun p=>p.1))).bind (fun i=>(l.map (fun p=>textJ p.2))[i]?)=(lk l nm).map textJ
 | [],_=>rfl
 | a::r,nm=>by
  rw [List.map_cons,plK,lk]
  split
  ·rfl
  ·rw [← got_obj r nm]
   cases plK nm (r.map (fun p=>p.1))<;>rfl
theorem gotP_obj (l:List (Bs×Bs)) (nm:Bs):gotP (objJ l) nm=(lk l nm).map textJ:=by
 rw [gotP,objJ]
 show (if (6:Int)=6 then _ else _)=_
 rw [if_pos rfl]
 exact got_obj l nm
theorem gotP_more (n0:Bs) (l:List (Bs×Bs)) (nm:Bs) (h:n0≠nm):gotP (moreJ n0 l) nm=(lk l nm).map textJ:=by
 rw [gotP,moreJ]
 show (if (6:Int)=6 then (plK nm (n0::l.map (fun p=>p.1))).bind (fun i=>(Jv.nul::l.map (fun p=>textJ p.2))[i]?) else _)=_
 rw [if_pos rfl,plK,if_neg h,← got_obj l nm]
 cases plK nm (l.map (fun p=>p.1))<;>rfl
theorem toldK_eq {j i:Jv} {nm:Bs} (h:gotP j nm=gotP i nm):toldK j nm=toldK i nm:=by rw [toldK,toldK,h]
theorem wordQ_eq {j i:Jv} {nm:Bs} (h:gotP j nm=gotP i nm):wordQ j nm=wordQ i nm:=by rw [wordQ,wordQ,h]
theorem read_eq {j i:Jv} (h:∀ nm∈[nKty,nN,nE,nCrv,nX,nY,nK,nAlg,nKid],gotP j nm=gotP i nm):readK j=readK i:=by
 have h1:=toldK_eq (h nKty (by simp));have h2:=toldK_eq (h nN (by simp));have h3:=toldK_eq (h nE (by simp));have h4:=toldK_eq (h nCrv (by simp));have h5:=toldK_eq (h nX (by simp))
 have h6:=toldK_eq (h nY (by simp));have h7:=toldK_eq (h nK (by simp));have h8:=wordQ_eq (h nAlg (by simp));have h9:=wordQ_eq (h nKid (by simp))
 simp only [readK,partsK,bytesK,h1,h2,h3,h4,h5,h6,h7,h8,h9]
theorem told_of {j:Jv} {nm:Bs} {o:Option Bs} (h:gotP j nm=o.map textJ):toldK j nm=o:=by
 rw [toldK,h];cases o<;>rfl
theorem word_of {j:Jv} {nm:Bs} {o:Option Bs} (h:gotP j nm=o.map textJ) (ho:o≠some []):wordQ j nm=some (o.getD []):=by
 rw [wordQ,h]
 cases o with
 | none=>rfl
 | some t=>
  have ht:t≠[]:=fun e=>ho (by rw [e])
  show (if (4:Int)=4∧t≠[] then some t else none)=some t
  rw [if_pos ⟨rfl,ht⟩]
theorem kty_of {k:Ky} (h:kyOk k=true):k.kty=0∨k.kty=1∨k.kty=2:=by
 simp only [kyOk,Bool.and_eq_true] at h
 have h2:=h.2
 unfold wantsK at h2
 split at h2
 ·exact Or.inl (by assumption)
 ·split at h2
  ·exact Or.inr (Or.inl (by assumption))
  ·split at h2
   ·exact Or.inr (Or.inr (by assumption))
   ·cases h2
theorem opt_lk (nm t:Bs) (r:List (Bs×Bs)) (x:Bs):lk (optK nm t++r) x=if t≠[]∧nm=x then some t else lk r x:=by
 cases t with
 | nil=>simp [optK]
 | cons a b=>simp [optK,lk]
theorem read_val {k:Ky} (h:kyOk k=true):readK (valK k)=some k:=by
 have hk:=kty_of h
 simp only [kyOk,Bool.and_eq_true] at h
 have h2:=h.2
 clear h
 obtain ⟨kty,kid,alg,n,e,x,y,sec⟩:=k
 have t1:=fun (l:List (Bs×Bs)) nm=>told_of (gotP_obj l nm)
 have w1:=fun (l:List (Bs×Bs)) nm=>word_of (gotP_obj l nm)
 have og:∀ t:Bs,(if t≠[] then some t else none).getD []=t:=fun t=>by cases t<;>simp
 rcases hk with hk|hk|hk<;>(simp only at hk;subst hk;simp [wantsK] at h2)
 ·obtain ⟨⟨⟨rfl,rfl⟩,rfl⟩,_⟩:=h2
  have hA:lk (sortedK ⟨0,kid,alg,n,e,[],[],[]⟩) nAlg=if alg≠[] then some alg else none:=by simp [sortedK,opt_lk,lk,nAlg,nE,nKid,nKty,nN]
  have hI:lk (sortedK ⟨0,kid,alg,n,e,[],[],[]⟩) nKid=if kid≠[] then some kid else none:=by simp [sortedK,opt_lk,lk,nAlg,nE,nKid,nKty,nN]
  have hT:lk (sortedK ⟨0,kid,alg,n,e,[],[],[]⟩) nKty=some nRsa:=by simp [sortedK,opt_lk,lk,nAlg,nE,nKid,nKty,nN]
  have hN:lk (sortedK ⟨0,kid,alg,n,e,[],[],[]⟩) nN=some (b64P n):=by simp [sortedK,opt_lk,lk,nAlg,nE,nKid,nKty,nN]
  have hE:lk (sortedK ⟨0,kid,alg,n,e,[],[],[]⟩) nE=some (b64P e):=by simp [sortedK,opt_lk,lk,nAlg,nE,nKid,nKty,nN]
  have a1:=w1 (sortedK ⟨0,kid,alg,n,e,[],[],[]⟩) nAlg (by rw [hA];simp)
  have a2:=w1 (sortedK ⟨0,kid,alg,n,e,[],[],[]⟩) nKid (by rw [hI];simp)
  rw [hA,og] at a1
  rw [hI,og] at a2
  simp only [readK,partsK,bytesK,valK,t1,hT,hN,hE,a1,a2,if_pos,Option.bind_some,Option.map_some,from_b64]
 ·obtain ⟨⟨⟨rfl,rfl⟩,rfl⟩,_⟩:=h2
  have hA:lk (sortedK ⟨1,kid,alg,[],[],x,y,[]⟩) nAlg=if alg≠[] then some alg else none:=by simp [sortedK,opt_lk,lk,nAlg,nCrv,nKid,nKty,nX,nY]
  have hI:lk (sortedK ⟨1,kid,alg,[],[],x,y,[]⟩) nKid=if kid≠[] then some kid else none:=by simp [sortedK,opt_lk,lk,nAlg,nCrv,nKid,nKty,nX,nY]
  have hT:lk (sortedK ⟨1,kid,alg,[],[],x,y,[]⟩) nKty=some nEc:=by simp [sortedK,opt_lk,lk,nAlg,nCrv,nKid,nKty,nX,nY]
  have hC:lk (sortedK ⟨1,kid,alg,[],[],x,y,[]⟩) nCrv=some nP256:=by simp [sortedK,opt_lk,lk,nAlg,nCrv,nKid,nKty,nX,nY]
  have hN:lk (sortedK ⟨1,kid,alg,[],[],x,y,[]⟩) nX=some (b64P x):=by simp [sortedK,opt_lk,lk,nAlg,nCrv,nKid,nKty,nX,nY]
  have hE:lk (sortedK ⟨1,kid,alg,[],[],x,y,[]⟩) nY=some (b64P y):=by simp [sortedK,opt_lk,lk,nAlg,nCrv,nKid,nKty,nX,nY]
  have a1:=w1 (sortedK ⟨1,kid,alg,[],[],x,y,[]⟩) nAlg (by rw [hA];simp)
  have a2:=w1 (sortedK ⟨1,kid,alg,[],[],x,y,[]⟩) nKid (by rw [hI];simp)
  rw [hA,og] at a1
  rw [hI,og] at a2
  have d1:nEc≠nRsa:=by decide
  simp only [readK,partsK,bytesK,valK,t1,hT,hC,hN,hE,a1,a2,if_pos,if_neg d1,Option.bind_some,Option.map_some,from_b64]
 ·obtain ⟨⟨⟨⟨⟨rfl,rfl⟩,rfl⟩,rfl⟩,_⟩,_⟩:=h2
  have hA:lk (sortedK ⟨2,kid,alg,[],[],[],[],sec⟩) nAlg=if alg≠[] then some alg else none:=by simp [sortedK,opt_lk,lk,nAlg,nK,nKid,nKty]
  have hI:lk (sortedK ⟨2,kid,alg,[],[],[],[],sec⟩) nKid=if kid≠[] then some kid else none:=by simp [sortedK,opt_lk,lk,nAlg,nK,nKid,nKty]
  have hT:lk (sortedK ⟨2,kid,alg,[],[],[],[],sec⟩) nKty=some nOct:=by simp [sortedK,opt_lk,lk,nAlg,nK,nKid,nKty]
  have hN:lk (sortedK ⟨2,kid,alg,[],[],[],[],sec⟩) nK=some (b64P sec):=by simp [sortedK,opt_lk,lk,nAlg,nK,nKid,nKty]
  have a1:=w1 (sortedK ⟨2,kid,alg,[],[],[],[],sec⟩) nAlg (by rw [hA];simp)
  have a2:=w1 (sortedK ⟨2,kid,alg,[],[],[],[],sec⟩) nKid (by rw [hI];simp)
  rw [hA,og] at a1
  rw [hI,og] at a2
  have d1:nOct≠nRsa:=by decide
  have d2:nOct≠nEc:=by decide
  simp only [readK,partsK,bytesK,valK,t1,hT,hN,a1,a2,if_pos,if_neg d1,if_neg d2,Option.bind_some,Option.map_some,from_b64]
theorem sorted_ok {k:Ky} (h:kyOk k=true):((sortedK k).map (fun p=>p.1)).Nodup∧(∀ p∈sortedK k,Lib.validD p.1=true∧Lib.validD p.2=true)∧nUse ∉ (sortedK k).map (fun p=>p.1):=by
 have hk:=kty_of h
 simp only [kyOk,Bool.and_eq_true] at h
 have v1:=word_valid h.1.1
 have v2:=word_valid h.1.2
 clear h
 obtain ⟨kty,kid,alg,n,e,x,y,sec⟩:=k
 simp only at v1 v2
 have c1:Lib.validD nAlg=true:=by decide
 have c2:Lib.validD nKid=true:=by decide
 have c3:Lib.validD nKty=true:=by decide
 have c4:Lib.validD nE=true:=by decide
 have c5:Lib.validD nN=true:=by decide
 have c6:Lib.validD nCrv=true:=by decide
 have c7:Lib.validD nX=true:=by decide
 have c8:Lib.validD nY=true:=by decide
 have c9:Lib.validD nK=true:=by decide
 have e1:Lib.validD nRsa=true:=by decide
 have e2:Lib.validD nEc=true:=by decide
 have e3:Lib.validD nOct=true:=by decide
 have e4:Lib.validD nP256=true:=by decide
 have b:=b64_valid
 rcases hk with hk|hk|hk<;>(simp only at hk;subst hk;cases alg<;>cases kid)
 all_goals (refine ⟨of_decide_eq_true rfl,?_,of_decide_eq_true rfl⟩)
 all_goals (simp [sortedK,optK,v1,v2,c1,c2,c3,c4,c5,c6,c7,c8,c9,e1,e2,e3,e4,b])
theorem val_form {k:Ky} (h:kyOk k=true) (n:Nat) (hn:n<32):checkP n (valK k)=0:=obj_form n hn _ (sorted_ok h).1 (sorted_ok h).2.1
theorem of_val {k:Ky} (h:kyOk k=true):ofK (valK k)=some k:=by
 rw [ofK,if_pos (val_form h 0 (by omega)),read_val h]
 simp only
 rw [if_pos h]
theorem of_more {k:Ky} (h:kyOk k=true):ofK (moreJ nUse (sortedK k))=some k:=by
 have hs:=sorted_ok h
 have hr:readK (moreJ nUse (sortedK k))=readK (valK k):=read_eq (fun nm hm=>by
  rw [gotP_more _ _ _ (fun e=>by subst e;revert hm;decide),valK,gotP_obj])
 rw [ofK,if_pos (more_form 0 (by omega) nUse _ (by decide) (List.nodup_cons.2 ⟨hs.2.2,hs.1⟩) hs.2.1),hr,read_val h]
 simp only
 rw [if_pos h]
theorem of_ok {j:Jv} {k:Ky} (h:ofK j=some k):kyOk k=true:=by
 unfold ofK at h
 split at h
 ·split at h
  ·split at h
   ·rename_i hk
    simp only [Option.some.injEq] at h
    subst h
    exact hk
   ·cases h
  ·cases h
 ·cases h
theorem thumb_eq (k:Ky) (i a:Bs):thumbJ { k with kid:=i,alg:=a }=thumbJ k:=rfl
def dfree:List Ky→List Ky→Bool
 | _,[]=>true
 | out,k::r => !(out.any (fun o=>decide (o.kid=k.kid)&&decide (k.kid≠[])))&&dfree (out++[k]) r
theorem set_go:∀ (r out:List Ky),(∀ k∈r,kyOk k=true)→setGo out (r.map valK)=if dfree out r then some (out++r) else none
 | [],out,_=>by simp [setGo,dfree]
 | k::r,out,h=>by
  rw [List.map_cons,setGo,of_val (h k (by simp)),dfree]
  simp only
  split
  ·rename_i h1;rw [h1];simp
  ·rename_i h1
   rw [set_go r (out++[k]) (fun x hx=>h x (by simp [hx])),Bool.eq_false_iff.2 h1]
   simp
end Go.Proofs.YtbifjamddbpcjaaGreatDoor
