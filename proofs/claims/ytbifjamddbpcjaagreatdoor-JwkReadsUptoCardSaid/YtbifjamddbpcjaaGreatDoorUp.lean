/- The document's runes (layer 1), plain: the rune that bytes begin with is the decoder's. No program. -/
import Derived.Test.YtbifjamddbpcjaaGreatDoorJl
import Derived.Lib.TrimUEq
import Derived.Lib.MapLaws
import Derived.Test.YtbifjamddbpcjaaGreatDoorRs
import Derived.Laws.IdiomStrings
namespace Go.Proofs.YtbifjamddbpcjaaGreatDoor
set_option maxRecDepth 100000
set_option maxHeartbeats 25600000
theorem own_empty (W:World) (base N:Nat) (t:TypeId) (size:Nat) (hN:W.heap.size=N) (hb:base≤N):(W.alloc (.cells #[] t)).ownsRow base t size (.slice (some ⟨N,0,none⟩) 0 0) 0 []:=by
 subst hN
 exact ⟨by simp,Or.inr ⟨_,0,#[],rfl,hb,heap_alloc_new _ _,Nat.le_refl _,by unfold maxLen;omega,by simp,by simp⟩⟩
def runeP (n:Nat):Bs:=
 if n<128 then [n.toUInt8] else if n<2048 then [(192+n / 64).toUInt8,(128+n % 64).toUInt8]
 else if n<65536 then [(224+n / 4096).toUInt8,(128+n / 64 % 64).toUInt8,(128+n % 64).toUInt8]
 else [(240+n / 262144).toUInt8,(128+n / 4096 % 64).toUInt8,(128+n / 64 % 64).toUInt8,(128+n % 64).toUInt8]
def mayP (n:Nat):Bool:=decide (n≤1114111)&&(decide (n<55296) || decide (57343<n))
def bAt (s:Bs) (i:Nat):Nat:=(s.getD i 0).toNat
def candP (s:Bs) (k:Nat):Nat:=
 if k=1 then bAt s 0 else if k=2 then bAt s 0 % 32*64+bAt s 1 % 64 else if k=3 then bAt s 0 % 16*4096+bAt s 1 % 64*64+bAt s 2 % 64
 else bAt s 0 % 8*262144+bAt s 1 % 64*4096+bAt s 2 % 64*64+bAt s 3 % 64
def fitP (s:Bs) (k:Nat):Bool:=mayP (candP s k)&&(runeP (candP s k)==s.take k)
def firstGo (s:Bs):Nat→Nat→Nat×Nat
 | 0,_=>(0,0)
 | f+1,k=>if 4<k∨s.length<k then (0,0) else if fitP s k then (candP s k,k) else firstGo s f (k+1)
def firstP (s:Bs):Nat×Nat:=firstGo s 4 1
theorem toU8_iff {m:Nat} {x:UInt8} (h:m<256):m.toUInt8=x ↔ m=x.toNat:=by
 rw [← UInt8.toNat_inj]
 simp [Nat.toUInt8,UInt8.toNat_ofNat',Nat.mod_eq_of_lt h]
theorem fit1 {s:Bs} (h:1≤s.length):fitP s 1=decide (bAt s 0<128):=by
 match s,h with
 | x::r,_=>
  have hx:=x.toNat_lt
  simp only [fitP,candP,bAt,if_true,List.getD_cons_zero,List.take_succ_cons,List.take_zero]
  by_cases c:x.toNat<128
  ·simp [runeP,mayP,c,show x.toNat≤1114111 by omega,show x.toNat<55296 by omega]
  ·simp [runeP,c,show x.toNat<2048 by omega]
theorem fit2 {s:Bs} (h:2≤s.length):fitP s 2=true ↔ bAt s 0 / 32=6∧bAt s 1 / 64=2∧128≤bAt s 0 % 32*64+bAt s 1 % 64:=by
 match s,h with
 | x::y::r,_=>
  have hx:=x.toNat_lt
  have hy:=y.toNat_lt
  simp only [fitP,candP,bAt,List.getD_cons_zero,List.getD_cons_succ,List.take_succ_cons,List.take_zero,if_neg (show ¬ (2:Nat)=1 by omega),if_true]
  generalize hn:x.toNat % 32*64+y.toNat % 64=n
  have h1:n<2048:=by omega
  simp only [mayP,runeP,Bool.and_eq_true,Bool.or_eq_true,decide_eq_true_eq,beq_iff_eq]
  by_cases c:n<128
  ·rw [if_pos c]
   simp
   omega
  ·rw [if_neg c,if_pos h1]
   simp only [List.cons.injEq,and_true]
   rw [toU8_iff (by omega),toU8_iff (by omega)]
   omega
theorem fit3 {s:Bs} (h:3≤s.length):fitP s 3=true ↔ bAt s 0 / 16=14∧bAt s 1 / 64=2∧bAt s 2 / 64=2∧2048≤bAt s 0 % 16*4096+bAt s 1 % 64*64+bAt s 2 % 64∧(bAt s 0 % 16*4096+bAt s 1 % 64*64+bAt s 2 % 64<55296∨57343<bAt s 0 % 16*4096+bAt s 1 % 64*64+bAt s 2 % 64):=by
 match s,h with
 | x::y::z::r,_=>
  have hx:=x.toNat_lt
  have hy:=y.toNat_lt
  have hz:=z.toNat_lt
  simp only [fitP,candP,bAt,List.getD_cons_zero,List.getD_cons_succ,List.take_succ_cons,List.take_zero,if_neg (show ¬ (3:Nat)=1 by omega),if_neg (show ¬ (3:Nat)=2 by omega),if_true]
  generalize hn:x.toNat % 16*4096+y.toNat % 64*64+z.toNat % 64=n
  have h1:n<65536:=by omega
  simp only [mayP,runeP,Bool.and_eq_true,Bool.or_eq_true,decide_eq_true_eq,beq_iff_eq]
  by_cases c:n<128
  ·rw [if_pos c]
   simp
   omega
  ·by_cases c2:n<2048
   ·rw [if_neg c,if_pos c2]
    simp
    omega
   ·rw [if_neg c,if_neg c2,if_pos h1]
    simp only [List.cons.injEq,and_true]
    rw [toU8_iff (by omega),toU8_iff (by omega),toU8_iff (by omega)]
    have e1:n / 4096=x.toNat % 16:=by omega
    have e2:n / 64 % 64=y.toNat % 64:=by omega
    have e3:n % 64=z.toNat % 64:=by omega
    rw [e1,e2,e3]
    omega
theorem fit4 {s:Bs} (h:4≤s.length):fitP s 4=true ↔ bAt s 0 / 8=30∧bAt s 1 / 64=2∧bAt s 2 / 64=2∧bAt s 3 / 64=2∧65536≤bAt s 0 % 8*262144+bAt s 1 % 64*4096+bAt s 2 % 64*64+bAt s 3 % 64∧bAt s 0 % 8*262144+bAt s 1 % 64*4096+bAt s 2 % 64*64+bAt s 3 % 64≤1114111:=by
 match s,h with
 | x::y::z::u::r,_=>
  have hx:=x.toNat_lt
  have hy:=y.toNat_lt
  have hz:=z.toNat_lt
  have hu:=u.toNat_lt
  simp only [fitP,candP,bAt,List.getD_cons_zero,List.getD_cons_succ,List.take_succ_cons,List.take_zero,if_neg (show ¬ (4:Nat)=1 by omega),if_neg (show ¬ (4:Nat)=2 by omega),if_neg (show ¬ (4:Nat)=3 by omega)]
  generalize hn:x.toNat % 8*262144+y.toNat % 64*4096+z.toNat % 64*64+u.toNat % 64=n
  have h1:n<2097152:=by omega
  simp only [mayP,runeP,Bool.and_eq_true,Bool.or_eq_true,decide_eq_true_eq,beq_iff_eq]
  by_cases c:n<128
  ·rw [if_pos c]
   simp
   omega
  ·by_cases c2:n<2048
   ·rw [if_neg c,if_pos c2]
    simp
    omega
   ·by_cases c3:n<65536
    ·rw [if_neg c,if_neg c2,if_pos c3]
     simp
     omega
    ·rw [if_neg c,if_neg c2,if_neg c3]
     simp only [List.cons.injEq,and_true]
     rw [toU8_iff (by omega),toU8_iff (by omega),toU8_iff (by omega),toU8_iff (by omega)]
     have e1:n / 262144=x.toNat % 8:=by omega
     have e4:n / 4096 % 64=y.toNat % 64:=by omega
     have e2:n / 64 % 64=z.toNat % 64:=by omega
     have e3:n % 64=u.toNat % 64:=by omega
     rw [e1,e2,e3,e4]
     omega
theorem first_dec {s:Bs} (h:s≠[]):firstP s=if (Lib.decodeL s).1=65533∧(Lib.decodeL s).2=1 then (0,0) else Lib.decodeL s:=by
 have hl:0<s.length:=List.length_pos_iff.2 h
 have h0:bAt s 0<256:=UInt8.toNat_lt _
 have h1:bAt s 1<256:=UInt8.toNat_lt _
 have h2:bAt s 2<256:=UInt8.toNat_lt _
 have h3:bAt s 3<256:=UInt8.toNat_lt _
 have e1:=fit1 (s:=s) (by omega)
 have e2:=fun h=>fit2 (s:=s) h
 have e3:=fun h=>fit3 (s:=s) h
 have e4:=fun h=>fit4 (s:=s) h
 rw [Lib.decodeL_N]
 show _=if (Lib.decodeN s.length (bAt s 0) (bAt s 1) (bAt s 2) (bAt s 3)).1=65533∧_ then _ else _
 change _=if (Lib.decodeN s.length (bAt s 0) (bAt s 1) (bAt s 2) (bAt s 3)).1=65533∧(Lib.decodeN s.length (bAt s 0) (bAt s 1) (bAt s 2) (bAt s 3)).2=1 then (0,0) else Lib.decodeN s.length (bAt s 0) (bAt s 1) (bAt s 2) (bAt s 3)
 have c1:candP s 1=bAt s 0:=rfl
 have c2:candP s 2=bAt s 0 % 32*64+bAt s 1 % 64:=rfl
 have c3:candP s 3=bAt s 0 % 16*4096+bAt s 1 % 64*64+bAt s 2 % 64:=rfl
 have c4:candP s 4=bAt s 0 % 8*262144+bAt s 1 % 64*4096+bAt s 2 % 64*64+bAt s 3 % 64:=rfl
 unfold firstP
 simp only [firstGo,Nat.reduceAdd]
 generalize fitP s 1=f1 at *
 generalize fitP s 2=f2 at *
 generalize fitP s 3=f3 at *
 generalize fitP s 4=f4 at *
 generalize bAt s 0=a at *
 generalize bAt s 1=b at *
 generalize bAt s 2=c at *
 generalize bAt s 3=d at *
 generalize s.length=n at *
 rw [c1,c2,c3,c4]
 clear c1 c2 c3 c4
 subst e1
 unfold Lib.decodeN
 by_cases k1:a<128
 ·simp [k1,show ¬ n<1 by omega]
  omega
 rw [if_neg (show ¬ (4<1∨n<1) by omega)]
 simp only [k1,decide_false,Bool.false_eq_true,if_false]
 by_cases n2:n<2
 ·rw [if_pos (show 4<2∨n<2 by omega),if_neg (show ¬ (a / 32=6∧1<n∧b / 64=2) by omega),if_neg (show ¬ (a / 16=14∧(1<n∧b / 64=2)∧(2<n∧c / 64=2)) by omega),if_neg (show ¬ (a / 8=30∧(1<n∧b / 64=2)∧(2<n∧c / 64=2)∧(3<n∧d / 64=2)) by omega)]
  simp
 rw [if_neg (show ¬ (4<2∨n<2) by omega)]
 have e2:=e2 (by omega)
 by_cases k2:a / 32=6∧1<n∧b / 64=2
 ·rw [if_pos k2]
  by_cases g:a % 32*64+b % 64 ≥ 128
  ·have:=e2.2 (by omega)
   rw [if_pos this,if_pos g,if_neg (by simp)]
  ·have f2n:¬ f2=true:=fun e=>by have:=e2.1 e;omega
   rw [if_neg f2n,if_neg g]
   simp only [and_self,if_true]
   by_cases n3:n<3
   ·rw [if_pos (by omega)]
   rw [if_neg (by omega)]
   have f3n:¬ f3=true:=fun e=>by have:=(e3 (by omega)).1 e;omega
   rw [if_neg f3n]
   by_cases n4:n<4
   ·rw [if_pos (by omega)]
   rw [if_neg (by omega)]
   have f4n:¬ f4=true:=fun e=>by have:=(e4 (by omega)).1 e;omega
   rw [if_neg f4n]
 have f2n:¬ f2=true:=fun e=>by have:=e2.1 e;omega
 rw [if_neg f2n,if_neg k2]
 by_cases n3:n<3
 ·rw [if_pos (show 4<3∨n<3 by omega),if_neg (show ¬ (a / 16=14∧(1<n∧b / 64=2)∧(2<n∧c / 64=2)) by omega),if_neg (show ¬ (a / 8=30∧(1<n∧b / 64=2)∧(2<n∧c / 64=2)∧(3<n∧d / 64=2)) by omega)]
  simp
 rw [if_neg (show ¬ (4<3∨n<3) by omega)]
 have e3:=e3 (by omega)
 by_cases k3:a / 16=14∧(1<n∧b / 64=2)∧(2<n∧c / 64=2)
 ·rw [if_pos k3]
  by_cases g:a % 16*4096+b % 64*64+c % 64 ≥ 2048∧(a % 16*4096+b % 64*64+c % 64<55296∨(57344≤a % 16*4096+b % 64*64+c % 64∧a % 16*4096+b % 64*64+c % 64≤1114111))
  ·have:=e3.2 (by omega)
   rw [if_pos this,if_pos g,if_neg (by simp)]
  ·have f3n:¬ f3=true:=fun e=>by have:=e3.1 e;omega
   rw [if_neg f3n,if_neg g]
   simp only [and_self,if_true]
   by_cases n4:n<4
   ·rw [if_pos (by omega)]
   rw [if_neg (by omega)]
   have f4n:¬ f4=true:=fun e=>by have:=(e4 (by omega)).1 e;omega
   rw [if_neg f4n]
 have f3n:¬ f3=true:=fun e=>by have:=e3.1 e;omega
 rw [if_neg f3n,if_neg k3]
 by_cases n4:n<4
 ·rw [if_pos (show 4<4∨n<4 by omega),if_neg (show ¬ (a / 8=30∧(1<n∧b / 64=2)∧(2<n∧c / 64=2)∧(3<n∧d / 64=2)) by omega)]
  simp
 rw [if_neg (show ¬ (4<4∨n<4) by omega)]
 have e4:=e4 (by omega)
 by_cases k4:a / 8=30∧(1<n∧b / 64=2)∧(2<n∧c / 64=2)∧(3<n∧d / 64=2)
 ·rw [if_pos k4]
  by_cases g:a % 8*262144+b % 64*4096+c % 64*64+d % 64 ≥ 65536∧(a % 8*262144+b % 64*4096+c % 64*64+d % 64<55296∨(57344≤a % 8*262144+b % 64*4096+c % 64*64+d % 64∧a % 8*262144+b % 64*4096+c % 64*64+d % 64≤1114111))
  ·have:=e4.2 (by omega)
   rw [if_pos this,if_pos g,if_neg (by simp)]
  ·have f4n:¬ f4=true:=fun e=>by have:=e4.1 e;omega
   rw [if_neg f4n,if_neg g]
   simp
 have f4n:¬ f4=true:=fun e=>by have:=e4.1 e;omega
 rw [if_neg f4n,if_neg k4]
 simp
theorem first_bad {s:Bs} (h:s≠[]) (hb:(Lib.decodeL s).1=65533∧(Lib.decodeL s).2=1):firstP s=(0,0)∧Lib.validD s=false:=by
 rw [first_dec h,if_pos hb,Lib.validD_step s h,if_pos hb]
 exact ⟨rfl,rfl⟩
theorem first_good {s:Bs} (h:s≠[]) (hb:¬ ((Lib.decodeL s).1=65533∧(Lib.decodeL s).2=1)):firstP s=Lib.decodeL s∧Lib.validD s=Lib.validD (s.drop (Lib.decodeL s).2)∧1≤(Lib.decodeL s).2∧(Lib.decodeL s).2≤s.length:=by
 rw [first_dec h,if_neg hb,Lib.validD_step s h,if_neg hb]
 exact ⟨rfl,rfl,Lib.decodeL_width s,Lib.decodeL_le s h⟩
open Go.RowKit
theorem conv_new (w:World) (l:Bs) (C:Array Value) (hC:C=(l.map (fun b=>Value.int .u8 (b.toNat:Int))).toArray) :
  (convert 81 9 (.slice (some ⟨w.heap.size,0,none⟩) l.length l.length)).run Tryz.prog (w.alloc (.cells C 5))=.ok (.string ⟨l.toArray⟩) (w.alloc (.cells C 5)):=by
 refine run_convert_bytes_back (P:=Tryz.prog) _ 81 9 5 ⟨w.heap.size,0,none⟩ l.length l Tryz.underlying81 Tryz.underlying5 Tryz.underlying9 (fun j hj => ?_)
 rw [add_at,Nat.zero_add,World.cell?_alloc_mark,hC]
 simp [hj]
theorem u8v {n:Nat} (h:n<256):((n.toUInt8.toNat:Nat):Int)=n:=by simp [Nat.toUInt8,UInt8.toNat_ofNat',Nat.mod_eq_of_lt h]
theorem rune_any (n:Nat) (w:World) (h:n<2097152):Calls Tryz.prog 280 #[.int .i64 n] w fun e w'=>e=.returned (sV (runeP n))∧Fr NoB w w':=by
 go_enter Tryz.func280,Tryz.ntmps280
 by_cases c1:n<128
 ·have e:runeP n=[n.toUInt8]:=by rw [runeP,if_pos c1]
  have hcv:(convert 81 9 (.slice (some ⟨w.heap.size,0,none⟩) 1 1)).run Tryz.prog (w.alloc (.cells #[.int .u8 (n:Int)] 5))=.ok (.string ⟨(runeP n).toArray⟩) (w.alloc (.cells #[.int .u8 (n:Int)] 5)):=by rw [e];exact conv_new w [n.toUInt8] _ (by simp only [List.map_cons,List.map_nil];rw [u8v (by omega)])
  clear e
  have k1:(n:Int)<128:=by omega
  go_wp2_with fail
  go_ret
  exact ⟨rfl,(Fr.refl NoB w).alloc _⟩
 ·by_cases c2:n<2048
  ·have e:runeP n=[(192+n / 64).toUInt8,(128+n % 64).toUInt8]:=by rw [runeP,if_neg c1,if_pos c2]
   have hcv:(convert 81 9 (.slice (some ⟨w.heap.size,0,none⟩) 2 2)).run Tryz.prog (w.alloc (.cells #[.int .u8 (192+(n:Int) / 64),.int .u8 (128+(n:Int) % 64)] 5))=.ok (.string ⟨(runeP n).toArray⟩) (w.alloc (.cells #[.int .u8 (192+(n:Int) / 64),.int .u8 (128+(n:Int) % 64)] 5)):=by rw [e];exact conv_new w [(192+n / 64).toUInt8,(128+n % 64).toUInt8] _ (by simp only [List.map_cons,List.map_nil];rw [u8v (by omega),u8v (by omega)];rfl)
   clear e
   have k1:¬ (n:Int)<128:=by omega
   have k2:(n:Int)<2048:=by omega
   go_wp2_with fail
   go_ret
   exact ⟨rfl,(Fr.refl NoB w).alloc _⟩
  ·by_cases c3:n<65536
   ·have e:runeP n=[(224+n / 4096).toUInt8,(128+n / 64 % 64).toUInt8,(128+n % 64).toUInt8]:=by rw [runeP,if_neg c1,if_neg c2,if_pos c3]
    have hcv:(convert 81 9 (.slice (some ⟨w.heap.size,0,none⟩) 3 3)).run Tryz.prog (w.alloc (.cells #[.int .u8 (224+(n:Int) / 4096),.int .u8 (128+(n:Int) / 64 % 64),.int .u8 (128+(n:Int) % 64)] 5))=.ok (.string ⟨(runeP n).toArray⟩) (w.alloc (.cells #[.int .u8 (224+(n:Int) / 4096),.int .u8 (128+(n:Int) / 64 % 64),.int .u8 (128+(n:Int) % 64)] 5)):=by rw [e];exact conv_new w [(224+n / 4096).toUInt8,(128+n / 64 % 64).toUInt8,(128+n % 64).toUInt8] _ (by simp only [List.map_cons,List.map_nil];rw [u8v (by omega),u8v (by omega),u8v (by omega)];rfl)
    clear e
    have k1:¬ (n:Int)<128:=by omega
    have k2:¬ (n:Int)<2048:=by omega
    have k3:(n:Int)<65536:=by omega
    go_wp2_with fail
    go_ret
    exact ⟨rfl,(Fr.refl NoB w).alloc _⟩
   ·have e:runeP n=[(240+n / 262144).toUInt8,(128+n / 4096 % 64).toUInt8,(128+n / 64 % 64).toUInt8,(128+n % 64).toUInt8]:=by rw [runeP,if_neg c1,if_neg c2,if_neg c3]
    have hcv:(convert 81 9 (.slice (some ⟨w.heap.size,0,none⟩) 4 4)).run Tryz.prog (w.alloc (.cells #[.int .u8 (240+(n:Int) / 262144),.int .u8 (128+(n:Int) / 4096 % 64),.int .u8 (128+(n:Int) / 64 % 64),.int .u8 (128+(n:Int) % 64)] 5))=.ok (.string ⟨(runeP n).toArray⟩) (w.alloc (.cells #[.int .u8 (240+(n:Int) / 262144),.int .u8 (128+(n:Int) / 4096 % 64),.int .u8 (128+(n:Int) / 64 % 64),.int .u8 (128+(n:Int) % 64)] 5)):=by rw [e];exact conv_new w [(240+n / 262144).toUInt8,(128+n / 4096 % 64).toUInt8,(128+n / 64 % 64).toUInt8,(128+n % 64).toUInt8] _ (by simp only [List.map_cons,List.map_nil];rw [u8v (by omega),u8v (by omega),u8v (by omega),u8v (by omega)];rfl)
    clear e
    have k1:¬ (n:Int)<128:=by omega
    have k2:¬ (n:Int)<2048:=by omega
    have k3:¬ (n:Int)<65536:=by omega
    go_wp2_with fail
    go_ret
    exact ⟨rfl,(Fr.refl NoB w).alloc _⟩
theorem may_any (n:Nat) (w:World) (h:n<2097152):Calls Tryz.prog 279 #[.int .i64 n] w fun e w'=>e=.returned (.bool (mayP n))∧w'=w:=by
 go_enter Tryz.func279,Tryz.ntmps279
 have k0:(0:Int)≤n:=by omega
 by_cases c1:n≤1114111
 ·have k1:(n:Int)≤1114111:=by omega
  by_cases c2:n<55296
  ·have k2:(n:Int)<55296:=by omega
   go_wp2_with fail
   go_ret
   exact ⟨by simp [mayP,c1,c2],rfl⟩
  ·have k2:¬ (n:Int)<55296:=by omega
   by_cases c3:57343<n
   ·have k3:(57343:Int)<n:=by omega
    go_wp2_with fail
    go_ret
    exact ⟨by simp [mayP,c1,c2,c3],rfl⟩
   ·have k3:¬ (57343:Int)<n:=by omega
    go_wp2_with fail
    go_ret
    exact ⟨by simp [mayP,c1,c2,c3],rfl⟩
 ·have k1:¬ (n:Int)≤1114111:=by omega
  go_wp2_with fail
  go_ret
  exact ⟨by simp [mayP,c1],rfl⟩
theorem firstGo_step {s:Bs} {k:Nat} (h4:k≤4) (hl:k≤s.length) (hf:fitP s k=false):firstGo s (5 - k) k=firstGo s (5 - (k+1)) (k+1):=by
 have e:5 - k=(4 - k)+1:=by omega
 have e2:4 - k=5 - (k+1):=by omega
 rw [e,firstGo,if_neg (by omega),if_neg (by simp [hf]),e2]
theorem firstGo_hit {s:Bs} {k:Nat} (h4:k≤4) (hl:k≤s.length) (hf:fitP s k=true):firstGo s (5 - k) k=(candP s k,k):=by
 have e:5 - k=(4 - k)+1:=by omega
 rw [e,firstGo,if_neg (by omega),if_pos hf]
theorem firstGo_end {s:Bs} {k:Nat} (h:¬ (k≤4∧k≤s.length)):firstGo s (5 - k) k=(0,0):=by
 by_cases h5:k≤4
 ·have e:5 - k=(4 - k)+1:=by omega
  rw [e,firstGo,if_pos (by omega)]
 ·have e:5 - k=0:=by omega
  rw [e,firstGo]
theorem cand_lt (s:Bs) (k:Nat):candP s k<2097152:=by
 have h0:bAt s 0<256:=UInt8.toNat_lt _
 unfold candP
 repeat' split
 all_goals omega
theorem get_bAt (s:Bs) (i:Nat) (h:i<s.length):((⟨s.toArray⟩:ByteArray)[i]'h).toNat=bAt s i:=by
 rw [get_list]
 simp [bAt,List.getD,h]
theorem first_any (s:Bs) (w:World) (hl:s.length≤big):Calls Tryz.prog 250 #[.string ⟨s.toArray⟩] w fun e w'=>e=.returned (.tuple #[.int .i64 (firstP s).1,.int .i64 (firstP s).2])∧Fr NoB w w':=by
 unfold big at hl
 go_enter Tryz.func250,Tryz.ntmps250
 go_wp2_with fail
 go_loopw [4] (fun v wr=>∃ k:Nat,1≤k∧k≤5∧v=.int .i64 k∧Fr NoB w wr∧Hid (firstP s=firstGo s (5 - k) k)) (fun v _=>5 - (intOf v).toNat)
 case atStart=>exact ⟨1,Nat.le_refl _,by omega,rfl,Fr.refl _ _,Lib.hid rfl⟩
 case round=>
  obtain ⟨k,hk1,hk5,rfl,hf,HF⟩:=hrel
  by_cases hin:k≤4∧k≤s.length
  ·obtain ⟨h4,hkl⟩:=hin
   have i1:(k:Int)≤4:=by omega
   have i2:(k:Int)≤s.length:=by omega
   have hs:0<s.length:=by omega
   have g0:=get_bAt s 0 (by omega)
   have hcand:=cand_lt s k
   have HM:Hid (∀ u,Calls Tryz.prog 279 #[.int .i64 (candP s k)] u fun e w'=>e=.returned (.bool (mayP (candP s k)))∧w'=u):=Lib.hid (fun u=>may_any _ u hcand)
   have HR:Hid (∀ u,Calls Tryz.prog 280 #[.int .i64 (candP s k)] u fun e w'=>e=.returned (sV (runeP (candP s k)))∧Fr NoB u w'):=Lib.hid (fun u=>rune_any _ u hcand)
   have b0:bAt s 0<256:=UInt8.toNat_lt _
   have b1:bAt s 1<256:=UInt8.toNat_lt _
   have b2:bAt s 2<256:=UInt8.toNat_lt _
   have b3:bAt s 3<256:=UInt8.toNat_lt _
   go_upto_block 2 with fail
   go_cut [5] (fun v5 wx=>v5=.int .i64 (candP s k)∧Fr NoB wr wx)
   case first=>
    clear HF HM HR hcand
    rcases (by omega:k=1∨k=2∨k=3∨k=4) with rfl|rfl|rfl|rfl
    ·go_wp2_with fail
     go_meet
     exact ⟨rfl,Fr.refl _ _⟩
    ·have g1:=get_bAt s 1 (by omega)
     go_wp2_with fail
     go_quiet (fail)
     go_wp2_with fail
     go_meet
     exact ⟨rfl,(Fr.refl _ _).drewN _⟩
    ·have g1:=get_bAt s 1 (by omega)
     have g2:=get_bAt s 2 (by omega)
     go_wp2_with fail
     go_quiet (fail)
     go_wp2_with fail
     go_meet
     exact ⟨rfl,(Fr.refl _ _).drewN _⟩
    ·have g1:=get_bAt s 1 (by omega)
     have g2:=get_bAt s 2 (by omega)
     have g3:=get_bAt s 3 (by omega)
     go_wp2_with fail
     go_quiet (fail)
     go_wp2_with fail
     go_meet
     exact ⟨rfl,(Fr.refl _ _).drewN _⟩
   case rest=>
    obtain ⟨rfl,f5⟩:=hcut
    have hfit:fitP s k=(mayP (candP s k)&&(runeP (candP s k)==s.take k)):=rfl
    have HS1:=Lib.hid (fun h=>firstGo_step (s:=s) (k:=k) h4 hkl h)
    have HS2:=Lib.hid (fun h=>firstGo_hit (s:=s) (k:=k) h4 hkl h)
    generalize fitP s k=fit at hfit HS1 HS2
    clear g0 b0 b1 b2 b3 hs
    have i3:(0:Int)≤k:=by omega
    have hxt:=ext_take s k
    generalize candP s k=n at *
    have tok1:True:=trivial
    cases hm:mayP n with
    | false=>
     rw [hm] at hfit HM
     have HS:=Lib.hid (HS1.out hfit)
     clear HS1 HS2 hfit hm HR
     go_wp2_with fail
     go_quiet ((go_at_call 279;exact Calls.quiet_of_same (HM.out _)))
     go_wp2_with fail
     go_roundw
     case rel=>exact ⟨k+1,by omega,by omega,by simp,(hf.trans f5).drewN _,Lib.hid (by rw [HF.out,HS.out])⟩
     case measure=>simp [intOf];omega
    | true=>
     rw [hm] at hfit HM
     generalize hr:runeP n=r at hfit HR
     generalize s.take k=q at hfit hxt
     cases hq:(r==q) with
     | true=>
      rw [hq] at hfit
      have HS:=Lib.hid (HS2.out hfit)
      have hq2:r=q:=by simpa using hq
      subst hq2
      clear HS1 HS2 hfit hm
      go_wp2_with fail
      go_region_held3 (fun _=>True) (trivial) (first|(go_at_call 279;(with_reducible refine (HM.out _).mono ?_);rintro e w1 ⟨rfl,rfl⟩)|(go_at_call 280;(with_reducible refine (HR.out _).mono ?_);rintro e w2 ⟨rfl,f2⟩))
      go_wp2_with fail
      go_ret2
      exact ⟨by rw [HF.out,HS.out];rfl,(hf.trans f5).trans ((Fr.refl NoB wc).drew.trans f2)⟩
     | false=>
      rw [hq] at hfit
      have HS:=Lib.hid (HS1.out hfit)
      have hq3:¬ ((⟨r.toArray⟩:ByteArray)=⟨q.toArray⟩):=by simpa [ba_inj] using hq
      clear HS1 HS2 hfit hm
      go_wp2_with fail
      go_region_held3 (fun _=>True) (trivial) (first|(go_at_call 279;(with_reducible refine (HM.out _).mono ?_);rintro e w1 ⟨rfl,rfl⟩)|(go_at_call 280;(with_reducible refine (HR.out _).mono ?_);rintro e w2 ⟨rfl,f2⟩))
      go_wp2_with fail
      go_roundw
      case rel=>exact ⟨k+1,by omega,by omega,by simp,(hf.trans f5).trans ((Fr.refl NoB wc).drew.trans f2),Lib.hid (by rw [HF.out,HS.out])⟩
      case measure=>simp [intOf];omega
  ·have hz:=firstGo_end hin
   rw [← HF.out] at hz
   rw [hz]
   by_cases h4:k≤4
   ·have i1:(k:Int)≤4:=by omega
    have i2:¬ (k:Int)≤s.length:=by omega
    go_wp2_with fail
    go_ret2
    exact ⟨rfl,hf⟩
   ·have i1:¬ (k:Int)≤4:=by omega
    go_wp2_with fail
    go_ret2
    exact ⟨rfl,hf⟩
theorem info_intD:(Tryz.prog.info? 3).map (fun i=>(i.zero,i.size,i.bytes))=some (some (.int .i64 0),1,8):=by kernel_rfl
def validFrom (s:Bs) (m:Nat):Prop:=Lib.validD s=Lib.validD (s.drop m)
theorem uRunes_any (s:Bs) (w:World) (hl:s.length≤4398046511104):Calls Tryz.prog 219 #[.string ⟨s.toArray⟩] w fun e w'=>∃ v,e=.returned (.tuple #[v,.bool (Lib.validD s)])∧Fr NoB w w':=by
 obtain ⟨i0,hi0,hz0,hz1,hz2⟩:=info_parts info_intD
 have hle:s.length≤big:=by unfold big;omega
 have f1:Fr NoB w (w.alloc (.cells #[] 3)):=(Fr.refl _ _).alloc _
 have own0:(w.alloc (.cells #[] 3)).ownsRow w.heap.size 3 1 (.slice (some ⟨w.heap.size,0,none⟩) 0 0) 0 []:=own_empty w _ _ _ _ rfl (Nat.le_refl _)
 go_enter Tryz.func219,Tryz.ntmps219
 go_wp2_with fail
 go_loopw [4,5] (fun v4 v5 wr=>∃ (m:Nat) (cs:List Value),m≤s.length∧cs.length≤m∧v5=.int .i64 m∧wr.ownsRow w.heap.size 3 1 v4 cs.length cs∧Fr NoB w wr∧Hid (validFrom s m)) (fun _ v5 _=>s.length - (intOf v5).toNat)
 case atStart=>exact ⟨0,[],Nat.zero_le _,Nat.le_refl _,rfl,own0,f1,Lib.hid rfl⟩
 case round=>
  obtain ⟨m,cs,hm,hcm,rfl,hown,hf,HV⟩:=hrel
  by_cases hlt:m<s.length
  ·have i1:(0:Int)≤m:=by omega
   have i2:(m:Int)<s.length:=by omega
   have i3:(m:Int)≤s.length:=by omega
   have hne:s.drop m≠[]:=by intro e;have:=congrArg List.length e;simp at this;omega
   have hxt:=ext_drop s m
   have HC:Hid (∀ u,Calls Tryz.prog 250 #[.string ⟨(s.drop m).toArray⟩] u fun e w'=>e=.returned (.tuple #[.int .i64 (firstP (s.drop m)).1,.int .i64 (firstP (s.drop m)).2])∧Fr NoB u w'):=Lib.hid (fun u=>first_any _ u (by rw [List.length_drop];omega))
   by_cases hb:(Lib.decodeL (s.drop m)).1=65533∧(Lib.decodeL (s.drop m)).2=1
   ·obtain ⟨e1,e2⟩:=first_bad hne hb
    have e3:Lib.validD s=false:=HV.out.trans e2
    rw [e1] at HC
    clear hb e1 e2 hne
    go_wp2_with (go_at_call 250;(with_reducible refine (HC.out _).mono ?_);rintro e w2 ⟨rfl,f2⟩)
    go_ret2
    exact ⟨_,by rw [e3];rfl,hf.trans f2⟩
   ·obtain ⟨e1,e2,e3,e4⟩:=first_good hne hb
    rw [e1] at HC
    have e5:=Lib.decodeL_rune (s.drop m)
    rw [List.length_drop] at e4
    have HV2:Hid (validFrom s (m+(Lib.decodeL (s.drop m)).2)):=Lib.hid (by unfold validFrom;rw [HV.out,e2,List.drop_drop])
    clear hb e1 e2 hne
    generalize Lib.decodeL (s.drop m)=d at *
    obtain ⟨r,k⟩:=d
    simp only at *
    have k0:((k:Int)==0)=false:=by simp;omega
    have hsw:=hf.size
    have hlv:∀ g,u4.ownBlock=some g→w.heap.size≤g:=fun g hg=>(hown.lt g hg).1
    go_wp2_with (first|(go_at_call 250;((with_reducible refine (HC.out _).mono ?_);rintro e w2 ⟨rfl,f2⟩;have hs2:=f2.size;have fa:Fr NoB w2 (w2.alloc (.cells #[.int .i64 r] 3)):=(Fr.refl NoB w2).alloc _;have own3:=(f2.trans fa).row hown (fun _ _ e=>e)))|(at_builtin;go_loud (refine wpList_append_own _ rfl _ _ 160 rfl w.heap.size 3 i0 (.int .i64 0) 1 8 Tryz.underlying160 hi0 hz0 hz1 hz2 rfl (by decide) _ _ _ rfl own3 ⟨w2.heap.size,0,none⟩ 1 1 [.int .i64 r] rfl rfl (by intro j u hj;match j,hj with|0,hj=>simp at hj;subst hj;simp [Addr.add]) (by intro u hu;rw [List.mem_singleton] at hu;subst hu;rfl) (by unfold maxLen;omega) (by omega) (by simp;omega) ?_;intro v4 w4 hown4 hgr hnil)))
    have f4:Fr NoB w w4:=((hf.trans f2).trans fa).grown hgr (fun j hj hlt=>absurd (hlv j hj) (by omega))
    go_roundw
    case rel=>exact ⟨m+k,cs++[.int .i64 r],by omega,by simp;omega,by simp,by simpa using hown4,f4,HV2⟩
    case measure=>simp [intOf];omega
  ·obtain rfl:m=s.length:=by omega
   have e3:Lib.validD s=true:=by have:=HV.out;rw [validFrom,List.drop_length] at this;rw [this];rfl
   go_wp2_with fail
   go_ret2
   exact ⟨_,by rw [e3];rfl,hf⟩
theorem utf_any (s:Bs) (w:World) (hl:s.length≤4398046511104):Calls Tryz.prog 188 #[.string ⟨s.toArray⟩] w fun e w'=>e=.returned (.bool (Lib.validD s))∧Fr NoB w w':=by
 go_enter Tryz.func188,Tryz.ntmps188
 go_wp2_with (go_at_call 219;(with_reducible refine (uRunes_any s _ hl).mono ?_);rintro e w2 ⟨v,rfl,f2⟩)
 go_ret
 exact ⟨rfl,f2⟩
end Go.Proofs.YtbifjamddbpcjaaGreatDoor
