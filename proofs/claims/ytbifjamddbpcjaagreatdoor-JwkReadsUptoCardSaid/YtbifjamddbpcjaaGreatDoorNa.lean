/- The document's base64url, plainly: bits of bytes, six and eight at a time. No program. -/
import Derived.Test.YtbifjamddbpcjaaGreatDoorEa
namespace Go.Proofs.YtbifjamddbpcjaaGreatDoor
set_option maxRecDepth 100000
set_option maxHeartbeats 25600000
open Go.RowKit
def bitAt (s:Bs) (k:Nat):Nat:=if 8*s.length≤k then 0 else (s.getD (k / 8) 0).toNat / 2 ^ (7 - k % 8) % 2
def foldB (f:Nat→Nat) (k:Nat):Nat→Nat
 | 0=>0
 | j+1=>2*foldB f k j+f (k+j)
theorem foldB_shift (f g:Nat→Nat) (k d:Nat) (h:∀ i,f (i+d)=g i):∀ j,foldB f (k+d) j=foldB g k j
 | 0=>rfl
 | j+1=>by rw [foldB,foldB,foldB_shift f g k d h j,show k+d+j=(k+j)+d by omega,h]
theorem foldB_lt (f:Nat→Nat) (k:Nat) (h:∀ i,f i<2):∀ j,foldB f k j<2 ^ j
 | 0=>by simp [foldB]
 | j+1=>by
  have h1:=foldB_lt f k h j
  have h2:=h (k+j)
  rw [foldB,Nat.pow_succ];omega
theorem bitAt_lt (s:Bs) (k:Nat):bitAt s k<2:=by
 unfold bitAt;split
 ·decide
 ·exact Nat.mod_lt _ (by decide)
def rb64 (s:Bs):Bs:=(List.range ((8*s.length+5) / 6)).map (fun i=>b64C (foldB (bitAt s) (6*i) 6))
theorem bitAt_3 (a b c:UInt8) (r:Bs) (i:Nat):bitAt (a::b::c::r) (i+24)=bitAt r i:=by
 unfold bitAt
 have e1:(i+24) / 8=i / 8+3:=by omega
 have e2:(i+24) % 8=i % 8:=by omega
 rw [e1,e2]
 simp only [List.length_cons]
 by_cases h:8*r.length≤i
 ·rw [if_pos h,if_pos (by omega)]
 ·rw [if_neg h,if_neg (by omega)]
  simp
theorem range_4 (n:Nat) (f:Nat→UInt8):(List.range (n+4)).map f=f 0::f 1::f 2::f 3::(List.range n).map (fun i=>f (i+4)):=by
 rw [Nat.add_comm n 4,List.range_add,List.map_append,List.map_map]
 have e:((f ∘ fun x=>4+x):Nat→UInt8)=fun i=>f (i+4):=by funext i;simp [Nat.add_comm]
 rw [e];rfl
theorem six_0 (a:UInt8) (r:Bs):foldB (bitAt (a::r)) 0 6=a.toNat / 4:=by
 have ha:=a.toNat_lt
 simp only [foldB,bitAt,List.length_cons]
 rw [if_neg (by omega),if_neg (by omega),if_neg (by omega),if_neg (by omega),if_neg (by omega),if_neg (by omega)]
 simp only [Nat.reduceDiv,Nat.reduceMod,Nat.reduceSub,Nat.reducePow,List.getD_cons_zero,Nat.zero_add,Nat.mul_zero]
 omega
theorem six_6 (a b:UInt8) (r:Bs):foldB (bitAt (a::b::r)) 6 6=(a.toNat*16+b.toNat / 16) % 64:=by
 have ha:=a.toNat_lt
 have hb:=b.toNat_lt
 simp only [foldB,bitAt,List.length_cons]
 rw [if_neg (by omega),if_neg (by omega),if_neg (by omega),if_neg (by omega),if_neg (by omega),if_neg (by omega)]
 simp only [Nat.reduceAdd,Nat.reduceDiv,Nat.reduceMod,Nat.reduceSub,Nat.reducePow,List.getD_cons_zero,List.getD_cons_succ,Nat.zero_add,Nat.mul_zero]
 omega
theorem six_12 (a b c:UInt8) (r:Bs):foldB (bitAt (a::b::c::r)) 12 6=(b.toNat*4+c.toNat / 64) % 64:=by
 have ha:=c.toNat_lt
 have hb:=b.toNat_lt
 simp only [foldB,bitAt,List.length_cons]
 rw [if_neg (by omega),if_neg (by omega),if_neg (by omega),if_neg (by omega),if_neg (by omega),if_neg (by omega)]
 simp only [Nat.reduceAdd,Nat.reduceDiv,Nat.reduceMod,Nat.reduceSub,Nat.reducePow,List.getD_cons_zero,List.getD_cons_succ,Nat.zero_add,Nat.mul_zero]
 omega
theorem six_18 (a b c:UInt8) (r:Bs):foldB (bitAt (a::b::c::r)) 18 6=c.toNat % 64:=by
 have ha:=c.toNat_lt
 simp only [foldB,bitAt,List.length_cons]
 rw [if_neg (by omega),if_neg (by omega),if_neg (by omega),if_neg (by omega),if_neg (by omega),if_neg (by omega)]
 simp only [Nat.reduceAdd,Nat.reduceDiv,Nat.reduceMod,Nat.reduceSub,Nat.reducePow,List.getD_cons_zero,List.getD_cons_succ,Nat.zero_add,Nat.mul_zero]
 omega
theorem six_e1 (a:UInt8):foldB (bitAt [a]) 6 6=a.toNat*16 % 64:=by
 have ha:=a.toNat_lt
 simp [foldB,bitAt]
 omega
theorem six_e2 (a b:UInt8):foldB (bitAt [a,b]) 12 6=b.toNat*4 % 64:=by
 have ha:=b.toNat_lt
 simp [foldB,bitAt]
 omega
theorem rb64_eq:∀ s:Bs,rb64 s=b64P s
 | a::b::c::r=>by
  have hn:(8*(a::b::c::r).length+5) / 6=(8*r.length+5) / 6+4:=by simp only [List.length_cons];omega
  rw [b64P,← rb64_eq r,rb64,hn,range_4,six_0,six_6,six_12,six_18,rb64]
  congr 4
  refine List.map_congr_left (fun i _ => ?_)
  rw [show 6*(i+4)=6*i+24 by omega,foldB_shift _ (bitAt r) (6*i) 24 (bitAt_3 a b c r)]
 | [a,b]=>by
  rw [rb64,show (8*[a,b].length+5) / 6=3 by simp,b64P]
  simp only [show List.range 3=[0,1,2] from rfl,List.map_cons,List.map_nil]
  rw [six_0,six_6,six_e2]
 | [a]=>by
  rw [rb64,show (8*[a].length+5) / 6=2 by simp,b64P]
  simp only [show List.range 2=[0,1] from rfl,List.map_cons,List.map_nil]
  rw [six_0,six_e1]
 | []=>rfl
theorem rb64_len (s:Bs):(rb64 s).length=(8*s.length+5) / 6:=by simp [rb64]
theorem rb64_take (s:Bs) (i:Nat) (h:i<(8*s.length+5) / 6):(rb64 s).take (i+1)=(rb64 s).take i++[b64C (foldB (bitAt s) (6*i) 6)]:=by
 have h2:i<(rb64 s).length:=by rw [rb64_len];exact h
 rw [List.take_succ_eq_append_getElem h2]
 congr 2
 simp [rb64]
def sixB (n:Nat):List Nat:=[n / 32 % 2,n / 16 % 2,n / 8 % 2,n / 4 % 2,n / 2 % 2,n % 2]
def rbytes (l:List Nat):Bs:=(List.range (l.length / 8)).map (fun i=>(foldB (fun k=>l.getD k 0) (8*i) 8).toUInt8)
theorem range_3 (n:Nat) (f:Nat→UInt8):(List.range (n+3)).map f=f 0::f 1::f 2::(List.range n).map (fun i=>f (i+3)):=by
 rw [Nat.add_comm n 3,List.range_add,List.map_append,List.map_map]
 have e:((f ∘ fun x=>3+x):Nat→UInt8)=fun i=>f (i+3):=by funext i;simp [Nat.add_comm]
 rw [e];rfl
theorem rbytes_24 (l r:List Nat) (h:l.length=24):rbytes (l++r)=(foldB (fun k=>l.getD k 0) 0 8).toUInt8::(foldB (fun k=>l.getD k 0) 8 8).toUInt8::(foldB (fun k=>l.getD k 0) 16 8).toUInt8::rbytes r:=by
 have hn:(l++r).length / 8=r.length / 8+3:=by rw [List.length_append,h];omega
 have hl:∀ k,k<24→(l++r).getD k 0=l.getD k 0:=fun k hk=>by
  rw [List.getD_eq_getElem?_getD,List.getElem?_append_left (by omega),List.getD_eq_getElem?_getD]
 have hr:∀ k,(l++r).getD (k+24) 0=r.getD k 0:=fun k=>by
  rw [List.getD_eq_getElem?_getD,List.getElem?_append_right (by omega),List.getD_eq_getElem?_getD,h,Nat.add_sub_cancel]
 have h0:∀ k,k+8≤24→foldB (fun k=>(l++r).getD k 0) k 8=foldB (fun k=>l.getD k 0) k 8:=fun k hk=>by
  simp only [foldB]
  rw [hl _ (by omega),hl _ (by omega),hl _ (by omega),hl _ (by omega),hl _ (by omega),hl _ (by omega),hl _ (by omega),hl _ (by omega)]
 rw [rbytes,hn,range_3,h0 (8*0) (by omega),h0 (8*1) (by omega),h0 (8*2) (by omega),rbytes]
 congr 3
 refine List.map_congr_left (fun i _ => ?_)
 rw [show 8*(i+3)=8*i+24 by omega,foldB_shift _ (fun k=>r.getD k 0) (8*i) 24 hr]
theorem rbytes_six:∀ s:Bs,rbytes ((six s).flatMap sixB)=s
 | a::b::c::r=>by
  have ha:=a.toNat_lt;have hb:=b.toNat_lt;have hc:=c.toNat_lt
  rw [six,List.flatMap_cons,List.flatMap_cons,List.flatMap_cons,List.flatMap_cons,← List.append_assoc,← List.append_assoc,← List.append_assoc,rbytes_24 _ _ rfl,rbytes_six r]
  have e0:foldB (fun k=>(((sixB (a.toNat / 4)++sixB ((a.toNat*16+b.toNat / 16) % 64))++sixB ((b.toNat*4+c.toNat / 64) % 64))++sixB (c.toNat % 64)).getD k 0) 0 8=a.toNat:=by simp [foldB,sixB];omega
  have e1:foldB (fun k=>(((sixB (a.toNat / 4)++sixB ((a.toNat*16+b.toNat / 16) % 64))++sixB ((b.toNat*4+c.toNat / 64) % 64))++sixB (c.toNat % 64)).getD k 0) 8 8=b.toNat:=by simp [foldB,sixB];omega
  have e2:foldB (fun k=>(((sixB (a.toNat / 4)++sixB ((a.toNat*16+b.toNat / 16) % 64))++sixB ((b.toNat*4+c.toNat / 64) % 64))++sixB (c.toNat % 64)).getD k 0) 16 8=c.toNat:=by simp [foldB,sixB];omega
  rw [byte_of e0,byte_of e1,byte_of e2]
 | [a,b]=>by
  have ha:=a.toNat_lt;have hb:=b.toNat_lt
  rw [six,rbytes]
  simp only [List.flatMap_cons,List.flatMap_nil,List.append_nil]
  rw [show (sixB (a.toNat / 4)++(sixB ((a.toNat*16+b.toNat / 16) % 64)++sixB (b.toNat*4 % 64))).length / 8=2 by simp [sixB]]
  simp only [show List.range 2=[0,1] from rfl,List.map_cons,List.map_nil]
  have e0:foldB (fun k=>(sixB (a.toNat / 4)++(sixB ((a.toNat*16+b.toNat / 16) % 64)++sixB (b.toNat*4 % 64))).getD k 0) (8*0) 8=a.toNat:=by simp [foldB,sixB];omega
  have e1:foldB (fun k=>(sixB (a.toNat / 4)++(sixB ((a.toNat*16+b.toNat / 16) % 64)++sixB (b.toNat*4 % 64))).getD k 0) (8*1) 8=b.toNat:=by simp [foldB,sixB];omega
  rw [byte_of e0,byte_of e1]
 | [a]=>by
  have ha:=a.toNat_lt
  rw [six,rbytes]
  simp only [List.flatMap_cons,List.flatMap_nil,List.append_nil]
  rw [show (sixB (a.toNat / 4)++sixB (a.toNat*16 % 64)).length / 8=1 by simp [sixB]]
  simp only [show List.range 1=[0] from rfl,List.map_cons,List.map_nil]
  have e0:foldB (fun k=>(sixB (a.toNat / 4)++sixB (a.toNat*16 % 64)).getD k 0) (8*0) 8=a.toNat:=by simp [foldB,sixB];omega
  rw [byte_of e0]
 | []=>rfl
theorem rbytes_len (l:List Nat):(rbytes l).length=l.length / 8:=by simp [rbytes]
theorem rbytes_take (l:List Nat) (i:Nat) (h:i<l.length / 8):(rbytes l).take (i+1)=(rbytes l).take i++[(foldB (fun k=>l.getD k 0) (8*i) 8).toUInt8]:=by
 have h2:i<(rbytes l).length:=by rw [rbytes_len];exact h
 rw [List.take_succ_eq_append_getElem h2]
 congr 2
 simp [rbytes]
def rread (s:Bs):Option Bs:=(nums64 s).map (fun l=>rbytes (l.flatMap sixB))
theorem num_letter (c:UInt8) (h:0≤num64 c):b64C (num64 c).toNat=c∧(num64 c).toNat<64:=by
 have:=forall_u8 (p:=fun c=>decide (0≤num64 c→b64C (num64 c).toNat=c∧(num64 c).toNat<64)) (by decide +kernel) c
 exact of_decide_eq_true this h
theorem nums_back:∀ (s:Bs) (l:List Nat),nums64 s=some l→l.map b64C=s∧∀ n∈l,n<64
 | [],l,h=>by simp [nums64] at h;subst h;simp
 | c::r,l,h=>by
  rw [nums64] at h
  by_cases hc:num64 c<0
  ·rw [if_pos hc] at h;simp at h
  ·rw [if_neg hc] at h
   obtain ⟨l',hl',rfl⟩:=Option.map_eq_some_iff.1 h
   obtain ⟨h1,h2⟩:=nums_back r l' hl'
   obtain ⟨k1,k2⟩:=num_letter c (by omega)
   exact ⟨by rw [List.map_cons,h1,k1],fun n hn=>by
    rcases List.mem_cons.1 hn with rfl|hn
    ·exact k2
    ·exact h2 n hn⟩
theorem b64_six:∀ s:Bs,b64P s=(six s).map b64C
 | a::b::c::r=>by rw [b64P,six,b64_six r];rfl
 | [a,b]=>rfl
 | [a]=>rfl
 | []=>rfl
theorem u8_nat {n:Nat} (h:n<256):n.toUInt8.toNat=n:=by simp [Nat.toUInt8,UInt8.toNat_ofNat',Nat.mod_eq_of_lt h]
theorem six_unf:∀ (l:List Nat) (b:Bs),(∀ n∈l,n<64)→unf64 l=some b→six b=l
 | x::y::z::u::r,b,hl,h=>by
  rw [unf64] at h
  obtain ⟨b',hb',rfl⟩:=Option.map_eq_some_iff.1 h
  have ih:=six_unf r b' (fun n hn=>hl n (by simp [hn])) hb'
  have h1:=hl x (by simp);have h2:=hl y (by simp);have h3:=hl z (by simp);have h4:=hl u (by simp)
  simp only [List.cons_append,List.nil_append,six,ih]
  rw [u8_nat (by omega),u8_nat (by omega),u8_nat (by omega)]
  congr 1
  ·omega
  congr 1
  ·omega
  congr 1
  ·omega
  congr 1
  omega
 | [_],b,_,h=>by simp [unf64] at h
 | [x,y],b,hl,h=>by
  have h1:=hl x (by simp);have h2:=hl y (by simp)
  rw [unf64] at h
  by_cases hy:y % 16=0
  ·rw [if_pos hy] at h
   cases h
   rw [six,u8_nat (by omega)]
   congr 1
   ·omega
   congr 1
   omega
  ·rw [if_neg hy] at h;cases h
 | [x,y,z],b,hl,h=>by
  have h1:=hl x (by simp);have h2:=hl y (by simp);have h3:=hl z (by simp)
  rw [unf64] at h
  by_cases hy:z % 4=0
  ·rw [if_pos hy] at h
   cases h
   rw [six,u8_nat (by omega),u8_nat (by omega)]
   congr 1
   ·omega
   congr 1
   ·omega
   congr 1
   omega
  ·rw [if_neg hy] at h;cases h
 | [],b,_,h=>by rw [unf64] at h;cases h;rfl
theorem b64_from {s b:Bs} (h:from64 s=some b):b64P b=s:=by
 unfold from64 at h
 cases hn:nums64 s with
 | none=>rw [hn] at h;cases h
 | some l=>
  rw [hn] at h
  obtain ⟨h1,h2⟩:=nums_back s l hn
  rw [b64_six,six_unf l b h2 h,h1]
theorem rread_none {s:Bs} (h:rread s=none):from64 s=none:=by
 unfold rread at h
 rw [Option.map_eq_none_iff] at h
 rw [from64,h];rfl
theorem rread_some {s r:Bs} (h:rread s=some r):from64 s=if b64P r=s then some r else none:=by
 by_cases hr:b64P r=s
 ·rw [if_pos hr,← hr,from_b64]
 ·rw [if_neg hr]
  cases hf:from64 s with
  | none=>rfl
  | some b=>
   have hb:=b64_from hf
   exfalso
   apply hr
   have h2:rread s=some b:=by rw [← hb,rread,nums_six];exact congrArg some (rbytes_six b)
   rw [h] at h2
   cases h2
   exact hb
def val16:List Nat→Nat
 | []=>0
 | x::r=>x+65536*val16 r
def In16 (l:List Nat):Prop:=∀ x∈l,x<65536
theorem In16.head {x:Nat} {r:List Nat} (h:In16 (x::r)):x<65536:=h x (by simp)
theorem In16.tail {x:Nat} {r:List Nat} (h:In16 (x::r)):In16 r:=fun y hy=>h y (by simp [hy])
theorem In16.set {l:List Nat} (h:In16 l) (i x:Nat) (hx:x<65536):In16 (l.set i x):=by
 intro y hy
 rcases List.mem_or_eq_of_mem_set hy with h1|rfl
 ·exact h y h1
 ·exact hx
theorem In16.at {l:List Nat} (h:In16 l) (i:Nat):l.getD i 0<65536:=by
 rw [List.getD_eq_getElem?_getD]
 by_cases hi:i<l.length
 ·rw [List.getElem?_eq_getElem hi];exact h _ (List.getElem_mem hi)
 ·rw [List.getElem?_eq_none (by omega)];decide
theorem In16.snoc {l:List Nat} (h:In16 l) {x:Nat} (hx:x<65536):In16 (l++[x]):=fun y hy=>by
 rcases List.mem_append.1 hy with h1|h1
 ·exact h y h1
 ·simp at h1;omega
theorem In16.take {l:List Nat} (h:In16 l) (k:Nat):In16 (l.take k):=fun x hx=>h x (List.mem_of_mem_take hx)
theorem In16.drop {l:List Nat} (h:In16 l) (k:Nat):In16 (l.drop k):=fun x hx=>h x (List.mem_of_mem_drop hx)
theorem In16.zeros (n:Nat):In16 (List.replicate n 0):=fun x hx=>by rw [List.eq_of_mem_replicate hx];decide
theorem val16_zeros:∀ n,val16 (List.replicate n 0)=0
 | 0=>rfl
 | n+1=>by rw [List.replicate_succ,val16,val16_zeros n]
theorem val16_app:∀ (a b:List Nat),val16 (a++b)=val16 a+65536 ^ a.length*val16 b
 | [],b=>by simp [val16]
 | x::r,b=>by
  rw [List.cons_append,val16,val16,val16_app r b,List.length_cons,Nat.pow_succ,Nat.mul_add,Nat.mul_comm (65536 ^ r.length) 65536,Nat.mul_assoc,Nat.add_assoc]
theorem val16_snoc (a:List Nat) (x:Nat):val16 (a++[x])=val16 a+x*65536 ^ a.length:=by
 rw [val16_app,val16,val16,Nat.mul_zero,Nat.add_zero,Nat.mul_comm]
theorem val16_lt:∀ {a:List Nat},In16 a→val16 a<65536 ^ a.length
 | [],_=>by simp [val16]
 | x::r,h=>by
  have h1:=h.head
  have h2:=val16_lt h.tail
  rw [val16,List.length_cons,Nat.pow_succ]
  omega
theorem val16_split (l:List Nat) (k:Nat) (h:k≤l.length):val16 l=val16 (l.take k)+65536 ^ k*val16 (l.drop k):=by
 have:=val16_app (l.take k) (l.drop k)
 rwa [List.take_append_drop,List.length_take,Nat.min_eq_left h] at this
theorem val16_take (l:List Nat) (i:Nat) (h:i<l.length):val16 (l.take (i+1))=val16 (l.take i)+l.getD i 0*65536 ^ i:=by
 rw [List.take_succ_eq_append_getElem h,val16_snoc,List.length_take,Nat.min_eq_left (by omega),List.getD_eq_getElem?_getD,List.getElem?_eq_getElem h];rfl
theorem val16_set:∀ (l:List Nat) (i x:Nat),i<l.length→val16 (l.set i x)+l.getD i 0*65536 ^ i=val16 l+x*65536 ^ i
 | [],i,_,h=>by simp at h
 | y::r,0,x,_=>by simp [val16];omega
 | y::r,i+1,x,h=>by
  have:=val16_set r i x (by simpa using h)
  simp only [List.set_cons_succ,val16,List.getD_cons_succ,Nat.pow_succ]
  have e1:r.getD i 0*(65536 ^ i*65536)=65536*(r.getD i 0*65536 ^ i):=by rw [← Nat.mul_assoc,Nat.mul_comm]
  have e2:x*(65536 ^ i*65536)=65536*(x*65536 ^ i):=by rw [← Nat.mul_assoc,Nat.mul_comm]
  rw [e1,e2]
  omega
theorem digit_le (l:List Nat) (i:Nat):l.getD i 0*65536 ^ i≤val16 l:=by
 by_cases h:i<l.length
 ·have h1:=val16_take l i h
  have h2:=val16_split l (i+1) (by omega)
  omega
 ·rw [List.getD_eq_getElem?_getD,List.getElem?_eq_none (by omega)]
  show 0*_≤_
  rw [Nat.zero_mul]
  exact Nat.zero_le _
theorem digit_mod {l:List Nat} (h:In16 l) (i:Nat) (hi:i<l.length):val16 l / 65536 ^ i % 65536=l.getD i 0:=by
 have h1:=val16_split l i (by omega)
 have h2:=val16_lt (h.take i)
 rw [List.length_take,Nat.min_eq_left (by omega)] at h2
 have h3:l.drop i=l.getD i 0::l.drop (i+1):=by
  rw [List.drop_eq_getElem_cons hi,List.getD_eq_getElem?_getD,List.getElem?_eq_getElem hi];rfl
 have h4:=h.at i
 rw [h1,Nat.add_mul_div_left _ _ (Nat.pow_pos (by decide)),Nat.div_eq_of_lt h2,Nat.zero_add,h3,val16,Nat.add_mul_mod_self_left,Nat.mod_eq_of_lt h4]
theorem digit_mod' {l:List Nat} (h:In16 l) (i:Nat):val16 l / 65536 ^ i % 65536=l.getD i 0:=by
 by_cases hi:i<l.length
 ·exact digit_mod h i hi
 ·have h1:=val16_lt h
  have h2:65536 ^ l.length≤65536 ^ i:=Nat.pow_le_pow_right (by decide) (by omega)
  rw [Nat.div_eq_of_lt (by omega),List.getD_eq_getElem?_getD,List.getElem?_eq_none (by omega)];rfl
def Top (l:List Nat):Prop:=∀ n,l.length=n+1→l.getD n 0≠0
theorem Top.ge {l:List Nat} (h:Top l) {n:Nat} (hn:l.length=n+1):65536 ^ n≤val16 l:=by
 have h1:=digit_le l n
 have h2:1*65536 ^ n≤l.getD n 0*65536 ^ n:=Nat.mul_le_mul_right _ (Nat.pos_of_ne_zero (h n hn))
 omega
theorem len_lt {a b:List Nat} (hb:Top b) (ha:In16 a) (h:a.length<b.length):val16 a<val16 b:=by
 obtain ⟨n,hn⟩:∃ n,b.length=n+1:=⟨b.length - 1,by omega⟩
 have h1:=hb.ge hn
 have h2:=val16_lt ha
 have h3:65536 ^ a.length≤65536 ^ n:=Nat.pow_le_pow_right (by decide) (by omega)
 omega
theorem top_lt {a b:List Nat} {i:Nat} (ha:In16 a) (hl:a.length=b.length) (hi:i<a.length) (hd:a.drop (i+1)=b.drop (i+1)) (h:a.getD i 0<b.getD i 0):val16 a<val16 b:=by
 have h1:=val16_split a (i+1) (by omega)
 have h2:=val16_split b (i+1) (by omega)
 have h3:=val16_take a i hi
 have h4:=val16_take b i (by omega)
 have h5:=val16_lt (ha.take i)
 rw [List.length_take,Nat.min_eq_left (by omega)] at h5
 have h6:(a.getD i 0+1)*65536 ^ i≤b.getD i 0*65536 ^ i:=Nat.mul_le_mul_right _ h
 rw [Nat.add_mul,Nat.one_mul] at h6
 rw [hd] at h1
 omega
theorem drop_step {a b:List Nat} {i:Nat} (hl:a.length=b.length) (hi:i<a.length) (hd:a.drop (i+1)=b.drop (i+1)) (h:a.getD i 0=b.getD i 0):a.drop i=b.drop i:=by
 rw [List.getD_eq_getElem?_getD,List.getD_eq_getElem?_getD,List.getElem?_eq_getElem hi,List.getElem?_eq_getElem (by omega:i<b.length)] at h
 rw [List.drop_eq_getElem_cons hi,List.drop_eq_getElem_cons (by omega:i<b.length),hd]
 congr 1
def cmpN (x y:Nat):Int:=if x<y then -1 else if y<x then 1 else 0
def trimN (l:List Nat):Nat→Nat
 | 0=>0
 | n+1=>if l.getD n 0=0 then trimN l n else n+1
theorem trimN_le (l:List Nat):∀ n,trimN l n≤n
 | 0=>Nat.le_refl _
 | n+1=>by
  rw [trimN];split
  ·have:=trimN_le l n;omega
  ·exact Nat.le_refl _
def trimD (l:List Nat):List Nat:=l.take (trimN l l.length)
theorem trim_val (l:List Nat):∀ n,n≤l.length→val16 (l.take (trimN l n))=val16 (l.take n)
 | 0,_=>rfl
 | n+1,h=>by
  rw [trimN];split
  ·rename_i h0
   rw [trim_val l n (by omega),val16_take l n (by omega),h0,Nat.zero_mul,Nat.add_zero]
  ·rfl
theorem val16_trim (l:List Nat):val16 (trimD l)=val16 l:=by
 rw [trimD,trim_val l l.length (Nat.le_refl _),List.take_length]
theorem trimN_top (l:List Nat):∀ n m,n≤l.length→trimN l n=m+1→l.getD m 0≠0
 | 0,m,_,h=>by simp [trimN] at h
 | n+1,m,hn,h=>by
  rw [trimN] at h;split at h
  ·exact trimN_top l n m (by omega) h
  ·rename_i h0
   have:m=n:=by omega
   subst this;exact h0
theorem trim_top (l:List Nat):Top (trimD l):=by
 intro n hn
 have h1:=trimN_le l l.length
 rw [trimD,List.length_take,Nat.min_eq_left h1] at hn
 have h2:=trimN_top l l.length n (Nat.le_refl _) hn
 rw [trimD,List.getD_eq_getElem?_getD,List.getElem?_take_of_lt (by omega)]
 rwa [List.getD_eq_getElem?_getD] at h2
theorem natB_cons (c:UInt8) (r:Bs):natB (c::r)=c.toNat*256 ^ r.length+natB r:=by
 rw [natB,List.foldl_cons,natB_from,Nat.zero_mul,Nat.zero_add]
theorem natB_back {s:Bs} {i:Nat} (h:i<s.length):natB (s.drop (s.length - 1 - i))=(s.getD (s.length - 1 - i) 0).toNat*256 ^ i+natB (s.drop (s.length - i)):=by
 have h1:s.length - 1 - i<s.length:=by omega
 rw [List.drop_eq_getElem_cons h1,natB_cons,List.length_drop,show s.length - 1 - i+1=s.length - i by omega,show s.length - (s.length - i)=i by omega,List.getD_eq_getElem?_getD,List.getElem?_eq_getElem h1];rfl
theorem natB_back_lt {s:Bs} {i:Nat} (h:i≤s.length):natB (s.drop (s.length - i))<256 ^ i:=by
 have:=natB_lt (s.drop (s.length - i))
 rwa [List.length_drop,show s.length - (s.length - i)=i by omega] at this
theorem pow_two (k:Nat):65536 ^ k=256 ^ (2*k):=by rw [Nat.pow_mul]
def plc (c i:Nat):Nat:=if i % 2=1 then c*256 else c
theorem plc_pow (c i:Nat):plc c i*65536 ^ (i / 2)=c*256 ^ i:=by
 unfold plc
 rw [pow_two]
 by_cases h:i % 2=1
 ·rw [if_pos h,show c*256 ^ i=c*256 ^ (2*(i / 2)+1) by congr 2;omega,Nat.pow_succ,Nat.mul_assoc,Nat.mul_comm 256,← Nat.mul_assoc]
 ·rw [if_neg h,show 2*(i / 2)=i by omega]
theorem plc_free {l:List Nat} {i:Nat} (h:val16 l<256 ^ i):(i % 2=1→l.getD (i / 2) 0<256)∧(i % 2=0→l.getD (i / 2) 0=0):=by
 have h1:=digit_le l (i / 2)
 rw [pow_two] at h1
 constructor
 ·intro h2
  have e:256 ^ i=256*256 ^ (2*(i / 2)):=by rw [← Nat.pow_succ'];congr 1;omega
  have h3:l.getD (i / 2) 0*256 ^ (2*(i / 2))<256*256 ^ (2*(i / 2)):=by omega
  exact Nat.lt_of_mul_lt_mul_right h3
 ·intro h2
  have e:256 ^ i=1*256 ^ (2*(i / 2)):=by rw [Nat.one_mul];congr 1;omega
  have h3:l.getD (i / 2) 0*256 ^ (2*(i / 2))<1*256 ^ (2*(i / 2)):=by omega
  have:=Nat.lt_of_mul_lt_mul_right h3
  omega
theorem of_step {s:Bs} {l:List Nat} {i:Nat} (hi:i<s.length) (_hin:In16 l) (hl:i / 2<l.length) (hv:val16 l=natB (s.drop (s.length - i))) :
  val16 (l.set (i / 2) (l.getD (i / 2) 0+plc (s.getD (s.length - 1 - i) 0).toNat i))=natB (s.drop (s.length - (i+1)))∧l.getD (i / 2) 0+plc (s.getD (s.length - 1 - i) 0).toNat i<65536:=by
 have h1:=natB_back hi
 have h2:natB (s.drop (s.length - i))<256 ^ i:=natB_back_lt (by omega)
 have h3:=val16_set l (i / 2) (l.getD (i / 2) 0+plc (s.getD (s.length - 1 - i) 0).toNat i) hl
 have h4:=plc_free (by rw [hv];exact h2:val16 l<256 ^ i)
 have h5:=(s.getD (s.length - 1 - i) 0).toNat_lt
 rw [Nat.add_mul,plc_pow] at h3
 refine ⟨?_,?_⟩
 ·rw [show s.length - (i+1)=s.length - 1 - i by omega,h1]
  omega
 ·unfold plc
  by_cases h:i % 2=1
  ·rw [if_pos h];have:=h4.1 h;omega
  ·rw [if_neg h];have:=h4.2 (by omega);omega
def Lead (s:Bs):Prop:=∀ c r,s=c::r→c≠0
theorem lead_ge {c:UInt8} {r:Bs} (h:c≠0):256 ^ r.length≤natB (c::r):=by
 have h1:1≤c.toNat:=Nat.pos_of_ne_zero (fun e=>h (UInt8.toNat_inj.1 e))
 rw [natB_cons]
 have:=Nat.mul_le_mul_right (256 ^ r.length) h1
 omega
theorem natB_inj:∀ {s t:Bs},s.length=t.length→natB s=natB t→s=t
 | [],[],_,_=>rfl
 | [],_::_,h,_=>by simp at h
 | _::_,[],h,_=>by simp at h
 | c::r,d::q,h,hv=>by
  have hl:r.length=q.length:=by simpa using h
  have h1:=natB_lt r
  have h2:=natB_lt q
  rw [natB_cons,natB_cons] at hv
  rw [← hl] at hv h2
  have hp:0<256 ^ r.length:=Nat.pow_pos (by decide)
  have hc:c.toNat=d.toNat:=by
   have e1:(c.toNat*256 ^ r.length+natB r) / 256 ^ r.length=c.toNat:=by rw [Nat.mul_comm,Nat.mul_add_div hp,Nat.div_eq_of_lt h1,Nat.add_zero]
   have e2:(d.toNat*256 ^ r.length+natB q) / 256 ^ r.length=d.toNat:=by rw [Nat.mul_comm,Nat.mul_add_div hp,Nat.div_eq_of_lt h2,Nat.add_zero]
   rw [← e1,← e2,hv]
  have hrq:natB r=natB q:=by rw [hc] at hv;omega
  rw [UInt8.toNat_inj.1 hc,natB_inj hl hrq]
theorem lead_len {s t:Bs} (ht:Lead t) (h:s.length<t.length):natB s<natB t:=by
 cases t with
 | nil=>simp at h
 | cons c r=>
  have h1:=lead_ge (c:=c) (r:=r) (ht c r rfl)
  have h2:=natB_lt s
  have h3:256 ^ s.length≤256 ^ r.length:=Nat.pow_le_pow_right (by decide) (by simp at h;omega)
  omega
theorem lead_inj {s t:Bs} (hs:Lead s) (ht:Lead t) (h:natB s=natB t):s=t:=by
 rcases Nat.lt_trichotomy s.length t.length with h1|h1|h1
 ·have:=lead_len ht h1;omega
 ·exact natB_inj h1 h
 ·have:=lead_len hs h1;omega
def IsBits (v n:Nat):Prop:=v<2 ^ n∧(n≠0→2 ^ (n - 1)≤v)
theorem IsBits.uniq {v n m:Nat} (h1:IsBits v n) (h2:IsBits v m):n=m:=by
 rcases Nat.lt_trichotomy n m with h|h|h
 ·have h3:=h2.2 (by omega)
  have h4:2 ^ n≤2 ^ (m - 1):=Nat.pow_le_pow_right (by decide) (by omega)
  have:=h1.1;omega
 ·exact h
 ·have h3:=h1.2 (by omega)
  have h4:2 ^ m≤2 ^ (n - 1):=Nat.pow_le_pow_right (by decide) (by omega)
  have:=h2.1;omega
def leadB (s:Bs):Bool:=match s with
 | []=>true
 | c::_=>c != 0
theorem leadB_iff {s:Bs}:leadB s=true ↔ Lead s:=by
 cases s with
 | nil=>exact ⟨fun _ c r h=>by (cases h),fun _=>rfl⟩
 | cons c r=>
  simp only [leadB,bne_iff_ne,ne_eq]
  exact ⟨fun h c' r' e=>by cases e;exact h,fun h=>h c r rfl⟩
theorem form_eq {f s:Bs} (hf:Lead f) (hv:natB f=natB s):(f==s)=leadB s:=by
 rw [Bool.eq_iff_iff,beq_iff_eq,leadB_iff]
 exact ⟨fun h=>h ▸ hf,fun h=>lead_inj hf h hv⟩
theorem natB_last (s:Bs) (h:s≠[]):natB s % 2=(s.getLast?.getD 0).toNat % 2:=by
 obtain ⟨q,c,rfl⟩:∃ q c,s=q++[c]:=⟨s.dropLast,s.getLast h,(List.dropLast_concat_getLast h).symm⟩
 rw [natB_snoc]
 simp
 omega
theorem odd_is (s:Bs):oddP s=(leadB s&&decide (natB s % 2=1)):=by
 cases s with
 | nil=>rfl
 | cons c r=>
  rw [natB_last _ (by simp)]
  simp only [oddP,leadB]
  congr 1
theorem bitLen_is (c:UInt8) (h:c≠0):2 ^ (Lib.bitLen c.toNat - 1)≤c.toNat∧c.toNat<2 ^ Lib.bitLen c.toNat∧1≤Lib.bitLen c.toNat∧Lib.bitLen c.toNat≤8:=by
 have:=forall_u8 (p:=fun c=>decide (c≠0→2 ^ (Lib.bitLen c.toNat - 1)≤c.toNat∧c.toNat<2 ^ Lib.bitLen c.toNat∧1≤Lib.bitLen c.toNat∧Lib.bitLen c.toNat≤8)) (by decide +kernel) c
 exact of_decide_eq_true this h
theorem trim0_lead {s:Bs} (h:Lead s):trim0 s=s:=by
 cases s with
 | nil=>rfl
 | cons c r=>
  have:=h c r rfl
  simp [trim0,Lib.trimLeftS,this]
theorem bits_is {s:Bs} (h:Lead s):∃ n:Nat,bitsP s=(n:Int)∧IsBits (natB s) n:=by
 unfold bitsP
 rw [trim0_lead h]
 cases s with
 | nil=>exact ⟨0,rfl,by decide,fun h=>absurd rfl h⟩
 | cons c r=>
  obtain ⟨h1,h2,h3,h4⟩:=bitLen_is c (h c r rfl)
  have h5:=natB_lt r
  obtain ⟨b,hb⟩:∃ b,b=Lib.bitLen c.toNat:=⟨_,rfl⟩
  rw [← hb] at h1 h2 h3 h4
  refine ⟨8*r.length+b,by simp only [List.length_cons];omega,?_,fun _ => ?_⟩
  ·rw [natB_cons,Nat.pow_add,show 2 ^ (8*r.length)=256 ^ r.length by rw [Nat.pow_mul]]
   have h6:(c.toNat+1)*256 ^ r.length≤2 ^ b*256 ^ r.length:=Nat.mul_le_mul_right _ h2
   rw [Nat.add_mul,Nat.one_mul,Nat.mul_comm (2 ^ b)] at h6
   omega
  ·rw [natB_cons,show 8*r.length+b - 1=8*r.length+(b - 1) by omega,Nat.pow_add,show 2 ^ (8*r.length)=256 ^ r.length by rw [Nat.pow_mul],Nat.mul_comm]
   have h6:=Nat.mul_le_mul_right (256 ^ r.length) h1
   omega
theorem rsa_is (n e:Bs) (nb eb:Nat) (h1:IsBits (natB n) nb) (h2:IsBits (natB e) eb) :
  rsaP n e=(leadB n&&leadB e&&decide (natB n % 2=1)&&decide (natB e % 2=1)&&decide (512≤nb)&&decide (nb≤2048)&&decide (3≤natB e)&&decide (eb≤32)):=by
 unfold rsaP
 rw [odd_is,odd_is]
 by_cases hn:leadB n=true
 ·by_cases he:leadB e=true
  ·obtain ⟨nb',e1,k1⟩:=bits_is (leadB_iff.1 hn)
   obtain ⟨eb',e2,k2⟩:=bits_is (leadB_iff.1 he)
   obtain rfl:=k1.uniq h1
   obtain rfl:=k2.uniq h2
   rw [e1,e2,hn,he]
   by_cases hp:natB e % 2=1
   ·have h3:(2≤(eb':Int)) ↔ 3≤natB e:=by
     constructor
     ·intro h
      have h4:=h2.2 (by omega)
      have h5:2 ^ 1≤2 ^ (eb' - 1):=Nat.pow_le_pow_right (by decide) (by omega)
      omega
     ·intro h
      refine Decidable.byContradiction fun hc => ?_
      have h4:=h2.1
      have h5:2 ^ eb'≤2 ^ 1:=Nat.pow_le_pow_right (by decide) (by omega)
      omega
    have g1:(512≤(nb':Int)) ↔ 512≤nb':=by omega
    have g2:((nb':Int)≤2048) ↔ nb'≤2048:=by omega
    have g3:((eb':Int)≤32) ↔ eb'≤32:=by omega
    simp only [h3,g1,g2,g3,hp,Bool.true_and,Bool.and_true,decide_true,Bool.and_assoc]
   ·simp [hp]
  ·rw [Bool.not_eq_true] at he
   simp [he]
 ·rw [Bool.not_eq_true] at hn
  simp [hn]
theorem take16 (l:List Nat) (i:Nat):val16 (l.take (i+1))=val16 (l.take i)+l.getD i 0*65536 ^ i:=by
 by_cases h:i<l.length
 ·exact val16_take l i h
 ·rw [List.take_of_length_le (by omega),List.take_of_length_le (by omega),List.getD_eq_getElem?_getD,List.getElem?_eq_none (by omega)]
  simp
theorem add_step16 {out a b:List Nat} {c i x:Nat} (hl:out.length=i) (h:val16 out+c*65536 ^ i=val16 (a.take i)+val16 (b.take i)) (hx:x=c+a.getD i 0+b.getD i 0) :
  val16 (out++[x % 65536])+x / 65536*65536 ^ (i+1)=val16 (a.take (i+1))+val16 (b.take (i+1)):=by
 have h0:=Nat.div_add_mod x 65536
 have e:x % 65536*65536 ^ i+x / 65536*65536 ^ (i+1)=x*65536 ^ i:=by
  rw [Nat.pow_succ,Nat.mul_comm (65536 ^ i) 65536,← Nat.mul_assoc,← Nat.add_mul,Nat.mul_comm (x / 65536),Nat.add_comm,h0]
 rw [val16_snoc,hl,take16,take16]
 rw [hx,Nat.add_mul,Nat.add_mul,← hx] at e
 omega
theorem sub_step16 {out a b:List Nat} {c i x:Nat} (hl:out.length=i) (h:val16 out+val16 (b.take i)=val16 (a.take i)+c*65536 ^ i) (hx:x+c+b.getD i 0=65536+a.getD i 0) (hc:x / 65536≤1) :
  val16 (out++[x % 65536])+val16 (b.take (i+1))=val16 (a.take (i+1))+(1 - x / 65536)*65536 ^ (i+1):=by
 have h0:=Nat.div_add_mod x 65536
 rw [val16_snoc,hl,take16,take16,Nat.pow_succ,Nat.mul_comm (65536 ^ i) 65536,← Nat.mul_assoc]
 generalize 65536 ^ i=P at *
 generalize a.getD i 0=u at *
 generalize b.getD i 0=v at *
 have e:x % 65536+v+c=u+(1 - x / 65536)*65536:=by omega
 have e2:=congrArg (· * P) e
 simp only [Nat.add_mul] at e2
 omega
theorem sub_end16 {out a b:List Nat} {c:Nat} (hl:out.length=a.length) (ho:In16 out) (ha:In16 a) (hv:val16 b≤val16 a) (hc:c≤1) (h:val16 out+val16 (b.take a.length)=val16 (a.take a.length)+c*65536 ^ a.length):val16 out=val16 a - val16 b:=by
 have h1:=val16_lt ho
 have h2:=val16_lt ha
 rw [hl] at h1
 rw [List.take_length] at h
 have h3:val16 (b.take a.length)=val16 b:=by
  by_cases hb2:a.length≤b.length
  ·have h4:=val16_split b a.length hb2
   have h5:val16 (b.drop a.length)=0:=by
    refine Decidable.byContradiction fun h6 => ?_
    have:65536 ^ a.length*1≤65536 ^ a.length*val16 (b.drop a.length):=Nat.mul_le_mul_left _ (by omega)
    omega
   rw [h5,Nat.mul_zero,Nat.add_zero] at h4
   exact h4.symm
  ·rw [List.take_of_length_le (by omega)]
 rw [h3] at h
 have:c=0:=by
  refine Decidable.byContradiction fun h6 => ?_
  have h7:c=1:=by omega
  rw [h7,Nat.one_mul] at h
  omega
 rw [this,Nat.zero_mul] at h
 omega
theorem mul_step16 {out b:List Nat} {c i k x ai T:Nat} (hk:i+k<out.length) (h:val16 out+c*65536 ^ (i+k)=T+ai*65536 ^ i*val16 (b.take k)) (hx:x=c+(out.getD (i+k) 0+ai*b.getD k 0)) :
  val16 (out.set (i+k) (x % 65536))+x / 65536*65536 ^ (i+(k+1))=T+ai*65536 ^ i*val16 (b.take (k+1)):=by
 have h0:=Nat.div_add_mod x 65536
 have h1:=val16_set out (i+k) (x % 65536) hk
 have e:x % 65536*65536 ^ (i+k)+x / 65536*65536 ^ (i+(k+1))=x*65536 ^ (i+k):=by
  rw [← Nat.add_assoc,Nat.pow_succ,Nat.mul_comm (65536 ^ (i+k)) 65536,← Nat.mul_assoc,← Nat.add_mul,Nat.mul_comm (x / 65536),Nat.add_comm,h0]
 rw [take16,Nat.mul_add]
 have e2:ai*65536 ^ i*(b.getD k 0*65536 ^ k)=ai*b.getD k 0*65536 ^ (i+k):=by
  rw [Nat.pow_add,Nat.mul_mul_mul_comm]
 have e3:x*65536 ^ (i+k)=c*65536 ^ (i+k)+(out.getD (i+k) 0*65536 ^ (i+k)+ai*b.getD k 0*65536 ^ (i+k)):=by
  rw [hx,Nat.add_mul,Nat.add_mul]
 rw [e2]
 omega
theorem mul_end16 {out a b:List Nat} {c i:Nat} (hk:i+b.length<out.length) (h0:out.getD (i+b.length) 0=0) (h:val16 out+c*65536 ^ (i+b.length)=val16 (a.take i)*val16 b+a.getD i 0*65536 ^ i*val16 (b.take b.length)) :
  val16 (out.set (i+b.length) c)=val16 (a.take (i+1))*val16 b:=by
 have h1:=val16_set out (i+b.length) c hk
 rw [h0,Nat.zero_mul,Nat.add_zero] at h1
 rw [List.take_length] at h
 rw [take16,Nat.add_mul]
 omega
theorem left_step {r r' m:List Nat} {t B k x:Nat} (hk:k<r.length) (h:val16 (r'.take k)+t*val16 (m.take k)=val16 (r.take k)+B*65536 ^ k) (hd:r'.drop k=r.drop k) (hl:r'.length=r.length)
  (hx:x+B+t*m.getD k 0=r.getD k 0+1099511627776) (hB:x / 65536≤16777216) :
  val16 ((r'.set k (x % 65536)).take (k+1))+t*val16 (m.take (k+1))=val16 (r.take (k+1))+(16777216 - x / 65536)*65536 ^ (k+1)∧(r'.set k (x % 65536)).drop (k+1)=r.drop (k+1):=by
 have h0:=Nat.div_add_mod x 65536
 have e0:(r'.set k (x % 65536)).getD k 0=x % 65536:=by
  rw [List.getD_eq_getElem?_getD,List.getElem?_set_self (by omega)];rfl
 have e1:(r'.set k (x % 65536)).take k=r'.take k:=by rw [List.take_set_of_le (by omega)]
 refine ⟨?_,?_⟩
 ·rw [take16,take16,take16,e0,e1,Nat.mul_add,Nat.pow_succ,Nat.mul_comm (65536 ^ k) 65536,← Nat.mul_assoc,← Nat.mul_assoc]
  generalize 65536 ^ k=P at *
  generalize hu:t*m.getD k 0=u at *
  generalize r.getD k 0=v at *
  have e:x % 65536+u+B=v+(16777216 - x / 65536)*65536:=by omega
  have e2:=congrArg (· * P) e
  simp only [Nat.add_mul] at e2
  omega
 ·rw [List.drop_set_of_lt (by omega)]
  have:=congrArg (List.drop 1) hd
  rw [List.drop_drop,List.drop_drop] at this
  exact this
theorem left_end {r r' m:List Nat} {t B n:Nat} (hr:r.length=n+1) (hl:r'.length=n+1) (hm:m.length=n) (hin:In16 r') (hle:t*val16 m≤val16 r) (hin2:In16 r)
  (h:val16 (r'.take (n+1))+t*val16 (m.take (n+1))=val16 (r.take (n+1))+B*65536 ^ (n+1)):val16 r'=val16 r - t*val16 m:=by
 rw [List.take_of_length_le (by omega),List.take_of_length_le (by omega),List.take_of_length_le (by omega)] at h
 have h1:=val16_lt hin
 have h2:=val16_lt hin2
 rw [hl] at h1
 rw [hr] at h2
 have:B=0:=by
  refine Decidable.byContradiction fun h6 => ?_
  have:1*65536 ^ (n+1)≤B*65536 ^ (n+1):=Nat.mul_le_mul_right _ (by omega)
  omega
 rw [this,Nat.zero_mul] at h
 omega
theorem left_fits {r m:List Nat} {n:Nat} (hm:m.length=n) (hin:In16 m):r.getD n 0*val16 m≤val16 r:=by
 have h1:=digit_le r n
 have h2:=val16_lt hin
 rw [hm] at h2
 exact Nat.le_trans (Nat.mul_le_mul_left _ (by omega)) h1
theorem left_sub {x t m:Nat} (h:t*m≤x):(x - t*m) % m=x % m:=by
 conv=>rhs;rw [← Nat.sub_add_cancel h]
 rw [Nat.add_mul_mod_self_right]
def rText (j:Jv) (nm:Bs):Bs:=match gotP j nm with
 | some x=>x.text
 | none=>[]
def rIs (j:Jv) (nm:Bs):Bool:=match gotP j nm with
 | some x=>decide (x.kind=4)
 | none=>false
def rHas (j:Jv) (nm:Bs):Bool:=(gotP j nm).isSome
def rBy (j:Jv) (nm:Bs):Bs:=(from64 (rText j nm)).getD []
def rByB (j:Jv) (nm:Bs):Bool:=rIs j nm&&(from64 (rText j nm)).isSome
def rKey0 (j:Jv):Ky:=
 if rText j nKty=nRsa then ⟨0,[],[],rBy j nN,rBy j nE,[],[],[]⟩
 else if rText j nKty=nEc then ⟨1,[],[],[],[],rBy j nX,rBy j nY,[]⟩
 else if rText j nKty=nOct then ⟨2,[],[],[],[],[],[],rBy j nK⟩
 else kz
def rOk0 (j:Jv):Bool:=rIs j nKty &&
 (if rText j nKty=nRsa then rByB j nN&&rByB j nE
 else if rText j nKty=nEc then rIs j nCrv&&decide (rText j nCrv=nP256)&&(rByB j nX&&rByB j nY)
 else if rText j nKty=nOct then rByB j nK
 else false)
def rKey (j:Jv):Ky:={ rKey0 j with alg:=rText j nAlg,kid:=rText j nKid }
def rOk (j:Jv):Bool:=rOk0 j && !(rHas j nAlg&&decide (rText j nAlg=[])) && !(rHas j nKid&&decide (rText j nKid=[]))&&kyOk (rKey j)
def rofK (j:Jv):Option Ky:=if rOk j then some (rKey j) else none
theorem checks_mem:∀ (n:Nat) (l:List Jv),checksP n l=0→∀ x∈l,checkP n x=0
 | _,[],_,x,h=>by cases h
 | n,j::r,h,x,hx=>by
  rw [checksP] at h
  by_cases h1:checkP n j=0
  ·rw [if_pos h1] at h
   rcases List.mem_cons.1 hx with rfl|hx
   ·exact h1
   ·exact checks_mem n r h x hx
  ·rw [if_neg h1] at h;exact absurd h h1
theorem check_kids {n:Nat} {j:Jv} (h:checkP n j=0):checksP (n+1) j.list=0:=by
 cases j with
 | mk k i t l ks=>
  rw [checkP] at h
  split at h
  ·cases h
  ·split at h
   ·exact h
   ·cases h
theorem check_text {n:Nat} {j:Jv} (h:checkP n j=0) (hk:j.kind≠4):j.text=[]:=by
 cases j with
 | mk k i t l ks=>
  rw [checkP] at h
  split at h
  ·cases h
  ·split at h
   ·rename_i hf
    simp only [formP,Bool.and_eq_true] at hf
    have h1:=hf.2
    simp only [Jv.kind] at hk
    unfold textIn at h1
    simp [hk] at h1
    exact h1
   ·cases h
theorem got_text {j x:Jv} {nm:Bs} (h:checkP 0 j=0) (hg:gotP j nm=some x) (hk:x.kind≠4):x.text=[]:=by
 unfold gotP at hg
 by_cases h6:j.kind=6
 ·rw [if_pos h6] at hg
  obtain ⟨i,_,hi⟩:=Option.bind_eq_some_iff.1 hg
  exact check_text (checks_mem 1 j.list (check_kids h) x (List.mem_of_getElem? hi)) hk
 ·rw [if_neg h6] at hg;cases hg
theorem told_eq (j:Jv) (nm:Bs):toldK j nm=if rIs j nm then some (rText j nm) else none:=by
 unfold toldK rIs rText
 cases gotP j nm with
 | none=>rfl
 | some x=>by_cases h:x.kind=4<;>simp [h]
theorem bytes_eq (j:Jv) (nm:Bs):bytesK j nm=if rByB j nm then some (rBy j nm) else none:=by
 unfold bytesK rByB rBy
 rw [told_eq]
 cases rIs j nm
 ·rfl
 ·cases h:from64 (rText j nm)<;>simp [h]
theorem word_eq {j:Jv} (hj:checkP 0 j=0) (nm:Bs):wordQ j nm=if rHas j nm&&decide (rText j nm=[]) then none else some (rText j nm):=by
 unfold wordQ rHas rText
 cases hg:gotP j nm with
 | none=>rfl
 | some x=>
  by_cases h:x.kind=4
  ·by_cases ht:x.text=[]<;>simp [h,ht]
  ·have:=got_text hj hg h
   simp [h,this]
theorem rof_eq {j:Jv} (hj:checkP 0 j=0):rofK j=ofK j:=by
 have hp:partsK j=if rOk0 j then some (rKey0 j) else none:=by
  unfold partsK rOk0 rKey0
  rw [told_eq]
  cases h0:rIs j nKty
  ·rfl
  ·simp only [if_true,Bool.true_and]
   by_cases h1:rText j nKty=nRsa
   ·rw [if_pos h1,if_pos h1,if_pos h1,bytes_eq,bytes_eq]
    cases rByB j nN<;>cases rByB j nE<;>rfl
   ·rw [if_neg h1,if_neg h1,if_neg h1]
    by_cases h2:rText j nKty=nEc
    ·rw [if_pos h2,if_pos h2,if_pos h2,bytes_eq,bytes_eq,told_eq]
     cases rIs j nCrv
     ·rfl
     ·by_cases h3:rText j nCrv=nP256
      ·rw [if_pos (by rw [if_pos rfl,h3])]
       cases rByB j nX<;>cases rByB j nY<;>simp [h3]
      ·rw [if_neg (by rw [if_pos rfl];simpa using h3)]
       simp [h3]
    ·rw [if_neg h2,if_neg h2,if_neg h2]
     by_cases h3:rText j nKty=nOct
     ·rw [if_pos h3,if_pos h3,if_pos h3,bytes_eq]
      cases rByB j nK<;>rfl
     ·rw [if_neg h3,if_neg h3,if_neg h3];rfl
 unfold ofK readK rofK rOk rKey
 rw [if_pos hj,hp,word_eq hj,word_eq hj]
 cases rOk0 j
 ·rfl
 ·simp only [if_true,Bool.true_and,Option.bind_some]
  cases rHas j nAlg&&decide (rText j nAlg=[])<;>cases rHas j nKid&&decide (rText j nKid=[])<;>simp
theorem rcheck_is (k:Ky):kyOk k=((wordK k.kid&&wordK k.alg) &&
  (if k.kty=0 then rsaP k.n k.e&&decide (k.x++k.y++k.sec=[])
  else if k.kty=1 then ecP k.x k.y&&decide (k.n++k.e++k.sec=[])
  else if k.kty=2 then decide (1≤k.sec.length)&&decide (k.sec.length≤128)&&decide (k.x++k.y++k.n++k.e=[])
  else false)):=by
 unfold kyOk wantsK
 congr 1
 by_cases h0:k.kty=0
 ·rw [if_pos h0,if_pos h0]
  cases k.x<;>cases k.y<;>cases k.sec<;>simp
 ·rw [if_neg h0,if_neg h0]
  by_cases h1:k.kty=1
  ·rw [if_pos h1,if_pos h1]
   cases k.n<;>cases k.e<;>cases k.sec<;>simp
  ·rw [if_neg h1,if_neg h1]
   by_cases h2:k.kty=2
   ·rw [if_pos h2,if_pos h2]
    cases k.x<;>cases k.y<;>cases k.n<;>cases k.e<;>cases k.sec<;>simp
   ·rw [if_neg h2,if_neg h2]
end Go.Proofs.YtbifjamddbpcjaaGreatDoor
