/- The document's runes (layer 1), plain: the rune that bytes begin with is the decoder's. No program. -/
import Derived.Lib.TrimUEq
import Derived.Lib.MapLaws
import Derived.Test.YtbifjamddbpcjaaGreatDoorYd
import Derived.Laws.IdiomStrings
namespace Go.Proofs.YtbifjamddbpcjaaGreatDoor
set_option maxRecDepth 100000
set_option maxHeartbeats 25600000
theorem mz (W:World) (base N:Nat) (t:TypeId) (size:Nat) (hN:W.heap.size=N) (hb:base<=N):(W.alloc (.cells #[] t)).ownsRow base t size (.slice (some ⟨N,0,none⟩) 0 0) 0 []:=by
 subst hN;exact ⟨by simp,Or.inr ⟨_,0,#[],rfl,hb,heap_alloc_new _ _,Nat.le_refl _,by unfold maxLen;omega,by simp,by simp⟩⟩
def eM (n:Nat):Bs:=
 if n<128 then [n.toUInt8] else if n<2048 then [(192+n / 64).toUInt8,(128+n % 64).toUInt8]
 else if n<65536 then [(224+n / 4096).toUInt8,(128+n / 64 % 64).toUInt8,(128+n % 64).toUInt8]
 else [(240+n / 262144).toUInt8,(128+n / 4096 % 64).toUInt8,(128+n / 64 % 64).toUInt8,(128+n % 64).toUInt8]
def pQ (n:Nat):Bool:=decide (n<=1114111)&&(decide (n<55296) || decide (57343<n))
def cU (s:Bs) (i:Nat):Nat:=(s.getD i 0).toNat
def eN (s:Bs) (k:Nat):Nat:=
 if k=1 then cU s 0 else if k=2 then cU s 0 % 32*64+cU s 1 % 64 else if k=3 then cU s 0 % 16*4096+cU s 1 % 64*64+cU s 2 % 64
 else cU s 0 % 8*262144+cU s 1 % 64*4096+cU s 2 % 64*64+cU s 3 % 64
def lS (s:Bs) (k:Nat):Bool:=pQ (eN s k)&&(eM (eN s k)==s.take k)
def fe (s:Bs):Nat->Nat->Nat×Nat
 | 0,_=>(0,0)
 | f+1,k=>if 4<k\/s.length<k then (0,0) else if lS s k then (eN s k,k) else fe s f (k+1)
def kO (s:Bs):Nat×Nat:=fe s 4 1
theorem ez {m:Nat} {x:UInt8} (h:m<256):m.toUInt8=x ↔ m=x.toNat:=by
 rw [<- UInt8.toNat_inj];simp [Nat.toUInt8,UInt8.toNat_ofNat',Nat.mod_eq_of_lt h]
theorem abe {s:Bs} (h:1<=s.length):lS s 1=decide (cU s 0<128):=by
 match s,h with
 | x::r,_=>
  have hx:=x.toNat_lt;simp only [lS,eN,cU,if_true,List.getD_cons_zero,List.take_succ_cons,List.take_zero];by_cases c:x.toNat<128
  ·simp [eM,pQ,c,show x.toNat<=1114111 by omega,show x.toNat<55296 by omega]
  ·simp [eM,c,show x.toNat<2048 by omega]
theorem abf {s:Bs} (h:2<=s.length):lS s 2=true ↔ cU s 0 / 32=6/\cU s 1 / 64=2/\128<=cU s 0 % 32*64+cU s 1 % 64:=by
 match s,h with
 | x::y::r,_=>
  have hx:=x.toNat_lt;have hy:=y.toNat_lt;simp only [lS,eN,cU,List.getD_cons_zero,List.getD_cons_succ,List.take_succ_cons,List.take_zero,if_neg (show ¬ (2:Nat)=1 by omega),if_true];generalize hn:x.toNat % 32*64+y.toNat % 64=n;have h1:n<2048:=by omega
  simp only [pQ,eM,Bool.and_eq_true,Bool.or_eq_true,decide_eq_true_eq,beq_iff_eq];by_cases c:n<128
  ·rw [if_pos c];simp;omega
  ·rw [if_neg c,if_pos h1];simp only [List.cons.injEq,and_true];rw [ez (by omega),ez (by omega)];omega
theorem abg {s:Bs} (h:3<=s.length):lS s 3=true ↔ cU s 0 / 16=14/\cU s 1 / 64=2/\cU s 2 / 64=2/\2048<=cU s 0 % 16*4096+cU s 1 % 64*64+cU s 2 % 64/\(cU s 0 % 16*4096+cU s 1 % 64*64+cU s 2 % 64<55296\/57343<cU s 0 % 16*4096+cU s 1 % 64*64+cU s 2 % 64):=by
 match s,h with
 | x::y::z::r,_=>
  have hx:=x.toNat_lt;have hy:=y.toNat_lt;have hz:=z.toNat_lt;simp only [lS,eN,cU,List.getD_cons_zero,List.getD_cons_succ,List.take_succ_cons,List.take_zero,if_neg (show ¬ (3:Nat)=1 by omega),if_neg (show ¬ (3:Nat)=2 by omega),if_true];generalize hn:x.toNat % 16*4096+y.toNat % 64*64+z.toNat % 64=n;have h1:n<65536:=by omega
  simp only [pQ,eM,Bool.and_eq_true,Bool.or_eq_true,decide_eq_true_eq,beq_iff_eq];by_cases c:n<128
  ·rw [if_pos c];simp;omega
  ·by_cases c2:n<2048
   ·rw [if_neg c,if_pos c2];simp;omega
   ·rw [if_neg c,if_neg c2,if_pos h1];simp only [List.cons.injEq,and_true];rw [ez (by omega),ez (by omega),ez (by omega)];(have e1:n / 4096=x.toNat % 16:=by omega);(have e2:n / 64 % 64=y.toNat % 64:=by omega);(have e3:n % 64=z.toNat % 64:=by omega);rw [e1,e2,e3];omega
theorem abh {s:Bs} (h:4<=s.length):lS s 4=true ↔ cU s 0 / 8=30/\cU s 1 / 64=2/\cU s 2 / 64=2/\cU s 3 / 64=2/\65536<=cU s 0 % 8*262144+cU s 1 % 64*4096+cU s 2 % 64*64+cU s 3 % 64/\cU s 0 % 8*262144+cU s 1 % 64*4096+cU s 2 % 64*64+cU s 3 % 64<=1114111:=by
 match s,h with
 | x::y::z::u::r,_=>
  have hx:=x.toNat_lt;have hy:=y.toNat_lt;have hz:=z.toNat_lt;have hu:=u.toNat_lt;simp only [lS,eN,cU,List.getD_cons_zero,List.getD_cons_succ,List.take_succ_cons,List.take_zero,if_neg (show ¬ (4:Nat)=1 by omega),if_neg (show ¬ (4:Nat)=2 by omega),if_neg (show ¬ (4:Nat)=3 by omega)];generalize hn:x.toNat % 8*262144+y.toNat % 64*4096+z.toNat % 64*64+u.toNat % 64=n;have h1:n<2097152:=by omega
  simp only [pQ,eM,Bool.and_eq_true,Bool.or_eq_true,decide_eq_true_eq,beq_iff_eq];by_cases c:n<128
  ·rw [if_pos c];simp;omega
  ·by_cases c2:n<2048
   ·rw [if_neg c,if_pos c2];simp;omega
   ·by_cases c3:n<65536
    ·rw [if_neg c,if_neg c2,if_pos c3];simp;omega
    ·rw [if_neg c,if_neg c2,if_neg c3];simp only [List.cons.injEq,and_true];rw [ez (by omega),ez (by omega),ez (by omega),ez (by omega)];(have e1:n / 262144=x.toNat % 8:=by omega);(have e4:n / 4096 % 64=y.toNat % 64:=by omega);(have e2:n / 64 % 64=z.toNat % 64:=by omega);(have e3:n % 64=u.toNat % 64:=by omega);rw [e1,e2,e3,e4];omega
theorem vO {s:Bs} (h:s≠[]):kO s=if (Lib.decodeL s).1=65533/\(Lib.decodeL s).2=1 then (0,0) else Lib.decodeL s:=by
 have hl:0<s.length:=List.length_pos_iff.2 h;have h0:cU s 0<256:=UInt8.toNat_lt _;have h1:cU s 1<256:=UInt8.toNat_lt _;have h2:cU s 2<256:=UInt8.toNat_lt _;have h3:cU s 3<256:=UInt8.toNat_lt _;have e1:=abe (s:=s) (by omega);have e2:=fun h=>abf (s:=s) h;have e3:=fun h=>abg (s:=s) h;have e4:=fun h=>abh (s:=s) h;rw [Lib.decodeL_N];show _=if (Lib.decodeN s.length (cU s 0) (cU s 1) (cU s 2) (cU s 3)).1=65533/\_ then _ else _
 change _=if (Lib.decodeN s.length (cU s 0) (cU s 1) (cU s 2) (cU s 3)).1=65533/\(Lib.decodeN s.length (cU s 0) (cU s 1) (cU s 2) (cU s 3)).2=1 then (0,0) else Lib.decodeN s.length (cU s 0) (cU s 1) (cU s 2) (cU s 3)
 have c1:eN s 1=cU s 0:=rfl;have c2:eN s 2=cU s 0 % 32*64+cU s 1 % 64:=rfl;have c3:eN s 3=cU s 0 % 16*4096+cU s 1 % 64*64+cU s 2 % 64:=rfl;have c4:eN s 4=cU s 0 % 8*262144+cU s 1 % 64*4096+cU s 2 % 64*64+cU s 3 % 64:=rfl;unfold kO;simp only [fe,Nat.reduceAdd];generalize lS s 1=f1 at *;generalize lS s 2=f2 at *;generalize lS s 3=f3 at *;generalize lS s 4=f4 at *;generalize cU s 0=a at *;generalize cU s 1=b at *;generalize cU s 2=c at *;generalize cU s 3=d at *;generalize s.length=n at *;rw [c1,c2,c3,c4];clear c1 c2 c3 c4;subst e1;unfold Lib.decodeN;by_cases k1:a<128
 ·simp [k1,show ¬ n<1 by omega];omega
 rw [if_neg (show ¬ (4<1\/n<1) by omega)];simp only [k1,decide_false,Bool.false_eq_true,if_false];by_cases n2:n<2
 ·rw [if_pos (show 4<2\/n<2 by omega),if_neg (show ¬ (a / 32=6/\1<n/\b / 64=2) by omega),if_neg (show ¬ (a / 16=14/\(1<n/\b / 64=2)/\(2<n/\c / 64=2)) by omega),if_neg (show ¬ (a / 8=30/\(1<n/\b / 64=2)/\(2<n/\c / 64=2)/\(3<n/\d / 64=2)) by omega)];simp
 rw [if_neg (show ¬ (4<2\/n<2) by omega)];have e2:=e2 (by omega);by_cases k2:a / 32=6/\1<n/\b / 64=2
 ·rw [if_pos k2];by_cases g:a % 32*64+b % 64 >= 128
  ·have:=e2.2 (by omega);rw [if_pos this,if_pos g,if_neg (by simp)]
  ·have f2n:¬ f2=true:=fun e=>by have:=e2.1 e;omega
   rw [if_neg f2n,if_neg g];simp only [and_self,if_true];by_cases n3:n<3
   ·rw [if_pos (by omega)]
   rw [if_neg (by omega)];have Wi:¬ f3=true:=fun e=>by have:=(e3 (by omega)).1 e;omega
   rw [if_neg Wi];by_cases n4:n<4
   ·rw [if_pos (by omega)]
   rw [if_neg (by omega)];have R9:¬ f4=true:=fun e=>by have:=(e4 (by omega)).1 e;omega
   rw [if_neg R9]
 have f2n:¬ f2=true:=fun e=>by have:=e2.1 e;omega
 rw [if_neg f2n,if_neg k2];by_cases n3:n<3
 ·rw [if_pos (show 4<3\/n<3 by omega),if_neg (show ¬ (a / 16=14/\(1<n/\b / 64=2)/\(2<n/\c / 64=2)) by omega),if_neg (show ¬ (a / 8=30/\(1<n/\b / 64=2)/\(2<n/\c / 64=2)/\(3<n/\d / 64=2)) by omega)];simp
 rw [if_neg (show ¬ (4<3\/n<3) by omega)];have e3:=e3 (by omega);by_cases k3:a / 16=14/\(1<n/\b / 64=2)/\(2<n/\c / 64=2)
 ·rw [if_pos k3];by_cases g:a % 16*4096+b % 64*64+c % 64 >= 2048/\(a % 16*4096+b % 64*64+c % 64<55296\/(57344<=a % 16*4096+b % 64*64+c % 64/\a % 16*4096+b % 64*64+c % 64<=1114111))
  ·have:=e3.2 (by omega);rw [if_pos this,if_pos g,if_neg (by simp)]
  ·have Wi:¬ f3=true:=fun e=>by have:=e3.1 e;omega
   rw [if_neg Wi,if_neg g];simp only [and_self,if_true];by_cases n4:n<4
   ·rw [if_pos (by omega)]
   rw [if_neg (by omega)];have R9:¬ f4=true:=fun e=>by have:=(e4 (by omega)).1 e;omega
   rw [if_neg R9]
 have Wi:¬ f3=true:=fun e=>by have:=e3.1 e;omega
 rw [if_neg Wi,if_neg k3];by_cases n4:n<4
 ·rw [if_pos (show 4<4\/n<4 by omega),if_neg (show ¬ (a / 8=30/\(1<n/\b / 64=2)/\(2<n/\c / 64=2)/\(3<n/\d / 64=2)) by omega)];simp
 rw [if_neg (show ¬ (4<4\/n<4) by omega)];have e4:=e4 (by omega);by_cases k4:a / 8=30/\(1<n/\b / 64=2)/\(2<n/\c / 64=2)/\(3<n/\d / 64=2)
 ·rw [if_pos k4];by_cases g:a % 8*262144+b % 64*4096+c % 64*64+d % 64 >= 65536/\(a % 8*262144+b % 64*4096+c % 64*64+d % 64<55296\/(57344<=a % 8*262144+b % 64*4096+c % 64*64+d % 64/\a % 8*262144+b % 64*4096+c % 64*64+d % 64<=1114111))
  ·have:=e4.2 (by omega);rw [if_pos this,if_pos g,if_neg (by simp)]
  ·have R9:¬ f4=true:=fun e=>by have:=e4.1 e;omega
   rw [if_neg R9,if_neg g];simp
 have R9:¬ f4=true:=fun e=>by have:=e4.1 e;omega
 rw [if_neg R9,if_neg k4];simp
theorem Gt {s:Bs} (h:s≠[]) (hb:(Lib.decodeL s).1=65533/\(Lib.decodeL s).2=1):kO s=(0,0)/\Lib.validD s=false:=by
 rw [vO h,if_pos hb,Lib.validD_step s h,if_pos hb];exact ⟨rfl,rfl⟩
theorem CJ {s:Bs} (h:s≠[]) (hb:¬ ((Lib.decodeL s).1=65533/\(Lib.decodeL s).2=1)):kO s=Lib.decodeL s/\Lib.validD s=Lib.validD (s.drop (Lib.decodeL s).2)/\1<=(Lib.decodeL s).2/\(Lib.decodeL s).2<=s.length:=by
 rw [vO h,if_neg hb,Lib.validD_step s h,if_neg hb];exact ⟨rfl,rfl,Lib.decodeL_width s,Lib.decodeL_le s h⟩
open Go.RowKit
theorem oF (w:World) (l:Bs) (C:Array Value) (hC:C=(l.map (fun b=>Value.int .u8 (b.toNat:Int))).toArray) :
  (convert 81 9 (.slice (some ⟨w.heap.size,0,none⟩) l.length l.length)).run Tryz.prog (w.alloc (.cells C 5))=.ok (.string ⟨l.toArray⟩) (w.alloc (.cells C 5)):=by
 refine run_convert_bytes_back (P:=Tryz.prog) _ 81 9 5 ⟨w.heap.size,0,none⟩ l.length l Tryz.underlying81 Tryz.underlying5 Tryz.underlying9 (fun j hj => ?_);rw [bT,Nat.zero_add,World.cell?_alloc_mark,hC];simp [hj]
theorem MR {n:Nat} (h:n<256):((n.toUInt8.toNat:Nat):Int)=n:=by simp [Nat.toUInt8,UInt8.toNat_ofNat',Nat.mod_eq_of_lt h]
theorem Ku (n:Nat) (w:World) (h:n<2097152):Calls Tryz.prog 280 #[.int .i64 n] w fun e w'=>e=.returned (sV (eM n))/\Fr NoB w w':=by
 go_enter Tryz.func280,Tryz.ntmps280;by_cases c1:n<128
 ·have e:eM n=[n.toUInt8]:=by rw [eM,if_pos c1]
  have iE:(convert 81 9 (.slice (some ⟨w.heap.size,0,none⟩) 1 1)).run Tryz.prog (w.alloc (.cells #[.int .u8 (n:Int)] 5))=.ok (.string ⟨(eM n).toArray⟩) (w.alloc (.cells #[.int .u8 (n:Int)] 5)):=by rw [e];exact oF w [n.toUInt8] _ (by simp only [List.map_cons,List.map_nil];rw [MR (by omega)])
  clear e;have k1:(n:Int)<128:=by omega
  go_wp2_with fail;go_ret;exact ⟨rfl,(Fr.refl NoB w).alloc _⟩
 ·by_cases c2:n<2048
  ·have e:eM n=[(192+n / 64).toUInt8,(128+n % 64).toUInt8]:=by rw [eM,if_neg c1,if_pos c2]
   have iE:(convert 81 9 (.slice (some ⟨w.heap.size,0,none⟩) 2 2)).run Tryz.prog (w.alloc (.cells #[.int .u8 (192+(n:Int) / 64),.int .u8 (128+(n:Int) % 64)] 5))=.ok (.string ⟨(eM n).toArray⟩) (w.alloc (.cells #[.int .u8 (192+(n:Int) / 64),.int .u8 (128+(n:Int) % 64)] 5)):=by rw [e];exact oF w [(192+n / 64).toUInt8,(128+n % 64).toUInt8] _ (by simp only [List.map_cons,List.map_nil];rw [MR (by omega),MR (by omega)];rfl)
   clear e;have k1:¬ (n:Int)<128:=by omega
   have k2:(n:Int)<2048:=by omega
   go_wp2_with fail;go_ret;exact ⟨rfl,(Fr.refl NoB w).alloc _⟩
  ·by_cases c3:n<65536
   ·(have e:eM n=[(224+n / 4096).toUInt8,(128+n / 64 % 64).toUInt8,(128+n % 64).toUInt8]:=by rw [eM,if_neg c1,if_neg c2,if_pos c3]);(have iE:(convert 81 9 (.slice (some ⟨w.heap.size,0,none⟩) 3 3)).run Tryz.prog (w.alloc (.cells #[.int .u8 (224+(n:Int) / 4096),.int .u8 (128+(n:Int) / 64 % 64),.int .u8 (128+(n:Int) % 64)] 5))=.ok (.string ⟨(eM n).toArray⟩) (w.alloc (.cells #[.int .u8 (224+(n:Int) / 4096),.int .u8 (128+(n:Int) / 64 % 64),.int .u8 (128+(n:Int) % 64)] 5)):=by rw [e];exact oF w [(224+n / 4096).toUInt8,(128+n / 64 % 64).toUInt8,(128+n % 64).toUInt8] _ (by simp only [List.map_cons,List.map_nil];rw [MR (by omega),MR (by omega),MR (by omega)];rfl));clear e;(have k1:¬ (n:Int)<128:=by omega);(have k2:¬ (n:Int)<2048:=by omega);(have k3:(n:Int)<65536:=by omega);go_wp2_with fail;go_ret;exact ⟨rfl,(Fr.refl NoB w).alloc _⟩
   ·(have e:eM n=[(240+n / 262144).toUInt8,(128+n / 4096 % 64).toUInt8,(128+n / 64 % 64).toUInt8,(128+n % 64).toUInt8]:=by rw [eM,if_neg c1,if_neg c2,if_neg c3]);(have iE:(convert 81 9 (.slice (some ⟨w.heap.size,0,none⟩) 4 4)).run Tryz.prog (w.alloc (.cells #[.int .u8 (240+(n:Int) / 262144),.int .u8 (128+(n:Int) / 4096 % 64),.int .u8 (128+(n:Int) / 64 % 64),.int .u8 (128+(n:Int) % 64)] 5))=.ok (.string ⟨(eM n).toArray⟩) (w.alloc (.cells #[.int .u8 (240+(n:Int) / 262144),.int .u8 (128+(n:Int) / 4096 % 64),.int .u8 (128+(n:Int) / 64 % 64),.int .u8 (128+(n:Int) % 64)] 5)):=by rw [e];exact oF w [(240+n / 262144).toUInt8,(128+n / 4096 % 64).toUInt8,(128+n / 64 % 64).toUInt8,(128+n % 64).toUInt8] _ (by simp only [List.map_cons,List.map_nil];rw [MR (by omega),MR (by omega),MR (by omega),MR (by omega)];rfl));clear e;(have k1:¬ (n:Int)<128:=by omega);(have k2:¬ (n:Int)<2048:=by omega);(have k3:¬ (n:Int)<65536:=by omega);go_wp2_with fail;go_ret;exact ⟨rfl,(Fr.refl NoB w).alloc _⟩
theorem Oz (n:Nat) (w:World) (h:n<2097152):Calls Tryz.prog 279 #[.int .i64 n] w fun e w'=>e=.returned (.bool (pQ n))/\w'=w:=by
 go_enter Tryz.func279,Tryz.ntmps279;have k0:(0:Int)<=n:=by omega
 by_cases c1:n<=1114111
 ·have k1:(n:Int)<=1114111:=by omega
  by_cases c2:n<55296
  ·have k2:(n:Int)<55296:=by omega
   go_wp2_with fail;go_ret;exact ⟨by simp [pQ,c1,c2],rfl⟩
  ·have k2:¬ (n:Int)<55296:=by omega
   by_cases c3:57343<n
   ·(have k3:(57343:Int)<n:=by omega);go_wp2_with fail;go_ret;exact ⟨by simp [pQ,c1,c2,c3],rfl⟩
   ·(have k3:¬ (57343:Int)<n:=by omega);go_wp2_with fail;go_ret;exact ⟨by simp [pQ,c1,c2,c3],rfl⟩
 ·have k1:¬ (n:Int)<=1114111:=by omega
  go_wp2_with fail;go_ret;exact ⟨by simp [pQ,c1],rfl⟩
theorem xN {s:Bs} {k:Nat} (h4:k<=4) (hl:k<=s.length) (hf:lS s k=false):fe s (5 - k) k=fe s (5 - (k+1)) (k+1):=by
 have e:5 - k=(4 - k)+1:=by omega
 have e2:4 - k=5 - (k+1):=by omega
 rw [e,fe,if_neg (by omega),if_neg (by simp [hf]),e2]
theorem Ak {s:Bs} {k:Nat} (h4:k<=4) (hl:k<=s.length) (hf:lS s k=true):fe s (5 - k) k=(eN s k,k):=by
 have e:5 - k=(4 - k)+1:=by omega
 rw [e,fe,if_neg (by omega),if_pos hf]
theorem Al {s:Bs} {k:Nat} (h:¬ (k<=4/\k<=s.length)):fe s (5 - k) k=(0,0):=by
 by_cases h5:k<=4
 ·have e:5 - k=(4 - k)+1:=by omega
  rw [e,fe,if_pos (by omega)]
 ·have e:5 - k=0:=by omega
  rw [e,fe]
theorem OA (s:Bs) (k:Nat):eN s k<2097152:=by
 have h0:cU s 0<256:=UInt8.toNat_lt _;unfold eN
 repeat' split
 all_goals omega
theorem kP (s:Bs) (i:Nat) (h:i<s.length):((⟨s.toArray⟩:ByteArray)[i]'h).toNat=cU s i:=by
 rw [aM];simp [cU,List.getD,h]
theorem Gu (s:Bs) (w:World) (hl:s.length<=big):Calls Tryz.prog 250 #[.string ⟨s.toArray⟩] w fun e w'=>e=.returned (.tuple #[.int .i64 (kO s).1,.int .i64 (kO s).2])/\Fr NoB w w':=by
 unfold big at hl;go_enter Tryz.func250,Tryz.ntmps250;go_wp2_with fail;go_loopw [4] (fun v wr=>∃ k:Nat,1<=k/\k<=5/\v=.int .i64 k/\Fr NoB w wr/\Hid (kO s=fe s (5 - k) k)) (fun v _=>5 - (intOf v).toNat)
 case atStart=>exact ⟨1,Nat.le_refl _,by omega,rfl,Fr.refl _ _,hd' rfl⟩
 case round=>
  obtain ⟨k,IB,hk5,rfl,hf,HF⟩:=hrel;by_cases bX:k<=4/\k<=s.length
  ·obtain ⟨h4,jU⟩:=bX;have i1:(k:Int)<=4:=by omega
   have i2:(k:Int)<=s.length:=by omega
   have hs:0<s.length:=by omega
   have g0:=kP s 0 (by omega);have Kv:=OA s k;have HM:Hid (∀ u,Calls Tryz.prog 279 #[.int .i64 (eN s k)] u fun e w'=>e=.returned (.bool (pQ (eN s k)))/\w'=u):=hd' (fun u=>Oz _ u Kv);have HR:Hid (∀ u,Calls Tryz.prog 280 #[.int .i64 (eN s k)] u fun e w'=>e=.returned (sV (eM (eN s k)))/\Fr NoB u w'):=hd' (fun u=>Ku _ u Kv);have b0:cU s 0<256:=UInt8.toNat_lt _;have b1:cU s 1<256:=UInt8.toNat_lt _;have b2:cU s 2<256:=UInt8.toNat_lt _;have b3:cU s 3<256:=UInt8.toNat_lt _;go_upto_block 2 with fail;go_cut [5] (fun v5 wx=>v5=.int .i64 (eN s k)/\Fr NoB wr wx)
   case first=>
    clear HF HM HR Kv;rcases (by omega:k=1\/k=2\/k=3\/k=4) with rfl|rfl|rfl|rfl
    ·go_wp2_with fail;go_meet;exact ⟨rfl,Fr.refl _ _⟩
    ·have g1:=kP s 1 (by omega);go_wp2_with fail;go_quiet (fail);go_wp2_with fail;go_meet;exact ⟨rfl,(Fr.refl _ _).drewN _⟩
    ·have g1:=kP s 1 (by omega);have g2:=kP s 2 (by omega);go_wp2_with fail;go_quiet (fail);go_wp2_with fail;go_meet;exact ⟨rfl,(Fr.refl _ _).drewN _⟩
    ·have g1:=kP s 1 (by omega);have g2:=kP s 2 (by omega);have g3:=kP s 3 (by omega);go_wp2_with fail;go_quiet (fail);go_wp2_with fail;go_meet;exact ⟨rfl,(Fr.refl _ _).drewN _⟩
   case rest=>
    obtain ⟨rfl,f5⟩:=hcut;have gm:lS s k=(pQ (eN s k)&&(eM (eN s k)==s.take k)):=rfl;have uq:=hd' (fun h=>xN (s:=s) (k:=k) h4 jU h);have kD:=hd' (fun h=>Ak (s:=s) (k:=k) h4 jU h);generalize lS s k=fit at gm uq kD;clear g0 b0 b1 b2 b3 hs;(have i3:(0:Int)<=k:=by omega);have uY:=lT s k;generalize eN s k=n at *;have xr:True:=trivial;cases hm:pQ n with
    | false=>
     rw [hm] at gm HM;have HS:=hd' (uq.out gm);clear uq kD gm hm HR;go_wp2_with fail;go_quiet ((go_at_call 279;exact Calls.quiet_of_same (HM.out _)));go_wp2_with fail;go_roundw
     case rel=>exact ⟨k+1,by omega,by omega,by simp,(hf.trans f5).drewN _,hd' (by rw [HF.out,HS.out])⟩
     case measure=>simp [intOf];omega
    | true=>
     rw [hm] at gm HM;generalize hr:eM n=r at gm HR;generalize s.take k=q at gm uY;cases hq:(r==q) with
     | true=>
      rw [hq] at gm;have HS:=hd' (kD.out gm);(have ub:r=q:=by simpa using hq);subst ub;clear uq kD gm hm;go_wp2_with fail;go_region_held3 (fun _=>True) (trivial) (first|(go_at_call 279;(with_reducible refine (HM.out _).mono ?_);rintro e w1 ⟨rfl,rfl⟩)|(go_at_call 280;(with_reducible refine (HR.out _).mono ?_);rintro e w2 ⟨rfl,f2⟩));go_wp2_with fail;go_ret2;exact ⟨by rw [HF.out,HS.out];rfl,(hf.trans f5).trans ((Fr.refl NoB wc).drew.trans f2)⟩
     | false=>
      rw [hq] at gm;have HS:=hd' (uq.out gm);(have IJ:¬ ((⟨r.toArray⟩:ByteArray)=⟨q.toArray⟩):=by simpa [Bz] using hq);clear uq kD gm hm;go_wp2_with fail;go_region_held3 (fun _=>True) (trivial) (first|(go_at_call 279;(with_reducible refine (HM.out _).mono ?_);rintro e w1 ⟨rfl,rfl⟩)|(go_at_call 280;(with_reducible refine (HR.out _).mono ?_);rintro e w2 ⟨rfl,f2⟩));go_wp2_with fail;go_roundw
      case rel=>exact ⟨k+1,by omega,by omega,by simp,(hf.trans f5).trans ((Fr.refl NoB wc).drew.trans f2),hd' (by rw [HF.out,HS.out])⟩
      case measure=>simp [intOf];omega
  ·have hz:=Al bX;rw [<- HF.out] at hz;rw [hz];by_cases h4:k<=4
   ·(have i1:(k:Int)<=4:=by omega);(have i2:¬ (k:Int)<=s.length:=by omega);go_wp2_with fail;go_ret2;exact ⟨rfl,hf⟩
   ·(have i1:¬ (k:Int)<=4:=by omega);go_wp2_with fail;go_ret2;exact ⟨rfl,hf⟩
theorem Gv:(Tryz.prog.info? 3).map (fun i=>(i.zero,i.size,i.bytes))=some (some (.int .i64 0),1,8):=by kernel_rfl
def mE (s:Bs) (m:Nat):Prop:=Lib.validD s=Lib.validD (s.drop m)
theorem CL (s:Bs) (w:World) (hl:s.length<=4398046511104):Calls Tryz.prog 219 #[.string ⟨s.toArray⟩] w fun e w'=>∃ v,e=.returned (.tuple #[v,.bool (Lib.validD s)])/\Fr NoB w w':=by
 obtain ⟨i0,jv,hz0,hz1,hz2⟩:=info_parts Gv;have hle:s.length<=big:=by unfold big;omega
 have f1:Fr NoB w (w.alloc (.cells #[] 3)):=(Fr.refl _ _).alloc _;have Sb:(w.alloc (.cells #[] 3)).ownsRow w.heap.size 3 1 (.slice (some ⟨w.heap.size,0,none⟩) 0 0) 0 []:=mz w _ _ _ _ rfl (Nat.le_refl _);go_enter Tryz.func219,Tryz.ntmps219;go_wp2_with fail;go_loopw [4,5] (fun v4 v5 wr=>∃ (m:Nat) (cs:List Value),m<=s.length/\cs.length<=m/\v5=.int .i64 m/\wr.ownsRow w.heap.size 3 1 v4 cs.length cs/\Fr NoB w wr/\Hid (mE s m)) (fun _ v5 _=>s.length - (intOf v5).toNat)
 case atStart=>exact ⟨0,[],Nat.zero_le _,Nat.le_refl _,rfl,Sb,f1,hd' rfl⟩
 case round=>
  obtain ⟨m,cs,hm,PQ,rfl,hown,hf,HV⟩:=hrel;by_cases hlt:m<s.length
  ·have i1:(0:Int)<=m:=by omega
   have i2:(m:Int)<s.length:=by omega
   have i3:(m:Int)<=s.length:=by omega
   have hne:s.drop m≠[]:=by intro e;have:=congrArg List.length e;simp at this;omega
   have uY:=iu s m;have HC:Hid (∀ u,Calls Tryz.prog 250 #[.string ⟨(s.drop m).toArray⟩] u fun e w'=>e=.returned (.tuple #[.int .i64 (kO (s.drop m)).1,.int .i64 (kO (s.drop m)).2])/\Fr NoB u w'):=hd' (fun u=>Gu _ u (by rw [List.length_drop];omega));by_cases hb:(Lib.decodeL (s.drop m)).1=65533/\(Lib.decodeL (s.drop m)).2=1
   ·obtain ⟨e1,e2⟩:=Gt hne hb;have e3:Lib.validD s=false:=HV.out.trans e2;rw [e1] at HC;clear hb e1 e2 hne;go_wp2_with (go_at_call 250;(with_reducible refine (HC.out _).mono ?_);rintro e w2 ⟨rfl,f2⟩);go_ret2;exact ⟨_,by rw [e3];rfl,hf.trans f2⟩
   ·obtain ⟨e1,e2,e3,e4⟩:=CJ hne hb;rw [e1] at HC;have e5:=Lib.decodeL_rune (s.drop m);rw [List.length_drop] at e4;have Zx:Hid (mE s (m+(Lib.decodeL (s.drop m)).2)):=hd' (by unfold mE;rw [HV.out,e2,List.drop_drop]);clear hb e1 e2 hne;generalize Lib.decodeL (s.drop m)=d at *;obtain ⟨r,k⟩:=d;simp only at *;(have k0:((k:Int)==0)=false:=by simp;omega);have hsw:=hf.size;have hlv:∀ g,u4.ownBlock=some g->w.heap.size<=g:=fun g hg=>(hown.lt g hg).1;go_wp2_with (first|(go_at_call 250;((with_reducible refine (HC.out _).mono ?_);rintro e w2 ⟨rfl,f2⟩;have qP:=f2.size;have fa:Fr NoB w2 (w2.alloc (.cells #[.int .i64 r] 3)):=(Fr.refl NoB w2).alloc _;have OC:=(f2.trans fa).row hown (fun _ _ e=>e)))|(at_builtin;go_loud (refine wpList_append_own _ rfl _ _ 160 rfl w.heap.size 3 i0 (.int .i64 0) 1 8 Tryz.underlying160 jv hz0 hz1 hz2 rfl (by decide) _ _ _ rfl OC ⟨w2.heap.size,0,none⟩ 1 1 [.int .i64 r] rfl rfl (by intro j u hj;match j,hj with|0,hj=>simp at hj;subst hj;simp [Addr.add]) (by intro u hu;rw [List.mem_singleton] at hu;subst hu;rfl) (by unfold maxLen;omega) (by omega) (by simp;omega) ?_;intro v4 w4 aB hgr aiL)));have f4:Fr NoB w w4:=((hf.trans f2).trans fa).grown hgr (fun j hj hlt=>absurd (hlv j hj) (by omega));go_roundw
    case rel=>exact ⟨m+k,cs++[.int .i64 r],by omega,by simp;omega,by simp,by simpa using aB,f4,Zx⟩
    case measure=>simp [intOf];omega
  ·obtain rfl:m=s.length:=by omega
   have e3:Lib.validD s=true:=by have:=HV.out;rw [mE,List.drop_length] at this;rw [this];rfl
   go_wp2_with fail;go_ret2;exact ⟨_,by rw [e3];rfl,hf⟩
theorem DB (s:Bs) (w:World) (hl:s.length<=4398046511104):Calls Tryz.prog 188 #[.string ⟨s.toArray⟩] w fun e w'=>e=.returned (.bool (Lib.validD s))/\Fr NoB w w':=by
 go_enter Tryz.func188,Tryz.ntmps188;go_wp2_with (go_at_call 219;(with_reducible refine (CL s _ hl).mono ?_);rintro e w2 ⟨v,rfl,f2⟩);go_ret;exact ⟨rfl,f2⟩
end Go.Proofs.YtbifjamddbpcjaaGreatDoor
