/- Digits of sixteen bits in memory; the document's numbers (layer 3): trim, digit, Bit, Bits. -/
import Derived.Test.YtbifjamddbpcjaaGreatDoorYd
import Derived.Test.YtbifjamddbpcjaaGreatDoorNa
import Derived.Deep.OwnRows
namespace Go.Proofs.YtbifjamddbpcjaaGreatDoor
set_option maxRecDepth 100000
set_option maxHeartbeats 25600000
open Go.RowKit
abbrev dV (k:IntKind) (n:Nat):Value:=.int k (n:Int)
def dU (k:IntKind) (w:World) (v:Value) (l:List Nat):Prop:=bl l/\l.length<=33554432 /\
 ((l=[]/\∃ a c,v=.slice a 0 c)\/∃ g o c,v=.slice (some ⟨g,o,none⟩) l.length c/\l.length<=c/\g<w.heap.size/\∀ (i:Nat) x,l[i]?=some x->w.cell? ⟨g,o+i,none⟩=some (dV k x))
theorem dU.fr {k:IntKind} {w u:World} {v:Value} {l:List Nat} (h:dU k w v l) (f:Fr NoB w u):dU k u v l:=by
 obtain ⟨h1,h2,h3⟩:=h;refine ⟨h1,h2,?_⟩;rcases h3 with ⟨h4,h5⟩|⟨g,o,c,h4,h5,h6,h7⟩
 ·exact Or.inl ⟨h4,h5⟩
 ·exact Or.inr ⟨g,o,c,h4,h5,Nat.lt_of_lt_of_le h6 f.size,fun i x hx=>(f.cell (p:=⟨g,o+i,none⟩) h6 (fun e=>e)).trans (h7 i x hx)⟩
theorem dU.sl {k:IntKind} {w:World} {v:Value} {l:List Nat} (h:dU k w v l):∃ a c,v=.slice a l.length c:=by
 rcases h.2.2 with ⟨h4,a,c,h5⟩|⟨g,o,c,h4,h5,h6,h7⟩
 ·exact ⟨a,c,by rw [h4];exact h5⟩
 ·exact ⟨_,c,h4⟩
theorem dU.at_ {k:IntKind} {w u:World} {a:Option Addr} {n c:Nat} {l:List Nat} (h:dU k w (.slice a n c) l) (f:Fr NoB w u) (hn:0<l.length) :
  ∃ g o,a=some ⟨g,o,none⟩/\l.length<=c/\∀ (i:Nat),i<l.length->u.cell? ⟨g,o+i,none⟩=some (dV k (l.getD i 0)):=by
 rcases (h.fr f).2.2 with ⟨h4,_⟩|⟨g,o,c',h4,h5,h6,h7⟩
 ·rw [h4] at hn;cases hn
 ·cases h4;refine ⟨g,o,rfl,h5,fun i hi=>h7 i _ ?_⟩;rw [List.getD_eq_getElem?_getD,List.getElem?_eq_getElem hi];rfl
theorem dU.take {k:IntKind} {w:World} {a:Option Addr} {n c m:Nat} {l:List Nat} (h:dU k w (.slice a n c) l) (hm:m<=l.length):dU k w (.slice a m c) (l.take m):=by
 obtain ⟨h1,h2,h3⟩:=h;have hl:(l.take m).length=m:=by rw [List.length_take,Nat.min_eq_left hm]
 refine ⟨h1.take m,by omega,?_⟩;rcases h3 with ⟨h4,_⟩|⟨g,o,c',h4,h5,h6,h7⟩
 ·subst h4;have:m=0:=by simpa using hm
  subst this;exact Or.inl ⟨rfl,_,_,rfl⟩
 ·cases h4;refine Or.inr ⟨g,o,c,by rw [hl],by omega,h6,fun i x hx=>h7 i x ?_⟩;by_cases hi:i<m
  ·rwa [List.getElem?_take_of_lt hi] at hx
  ·rw [List.getElem?_eq_none (by omega)] at hx;cases hx
theorem dU.iZ {k:IntKind} {w:World} {g c:Nat} {t:TypeId} {l:List Nat} (h:Blk w g t (l.map (dV k)).toArray) (h1:bl l) (h2:l.length<=33554432) (hc:l.length<=c):dU k w (.slice (some ⟨g,0,none⟩) l.length c) l:=
 ⟨h1,h2,Or.inr ⟨g,0,c,rfl,hc,h.lt,fun i x hx=>by rw [Nat.zero_add,h.cell];simp [hx]⟩⟩
theorem iI {k:IntKind} {w:World} {g:Nat} {t:TypeId} {l:List Nat} (h:Blk w g t (l.map (dV k)).toArray) {q:Nat} (hq:q<l.length):w.cell? ⟨g,q,none⟩=some (dV k (l.getD q 0)):=by
 rw [h.cell,List.getD_eq_getElem?_getD,List.getElem?_eq_getElem hq];simp [hq]
theorem sL {k:IntKind} {w:World} {g:Nat} {t:TypeId} {l:List Nat} (h:Blk w g t (l.map (dV k)).toArray) (q x:Nat):Blk (w.setCell ⟨g,q,none⟩ (dV k x)) g t ((l.set q x).map (dV k)).toArray:=by
 have:=h.aS q (dV k x);rw [List.setIfInBounds_toArray,<- List.map_set] at this;exact this
theorem oT (v:Value) (n:Nat):madeCells #[v] n=Array.replicate n v:=by
 unfold madeCells;apply Array.ext_getElem?;intro j;by_cases h:j<n
 ·simp [h,Nat.mod_one]
 ·simp [h]
theorem mI (k:IntKind) (n:Nat):Array.replicate n (Value.int k 0)=((List.replicate n 0).map (dV k)).toArray:=by simp [dV]
def Y3:Value->Nat | .slice _ n _=>n|_=>0
theorem lM:(Tryz.prog.info? 113).map (fun i=>(i.zero,i.size,i.bytes))=some (some (.int .u64 0),1,8):=by kernel_rfl
theorem tr:(Tryz.prog.info? 155).map (fun i=>(i.zero,i.size,i.bytes))=some (some (.int .u32 0),1,4):=by kernel_rfl
theorem C7 (l:List Nat) (v:Value) (w:World) (hv:dU .u64 w v l) :
  Calls Tryz.prog 119 #[v] w fun e w'=>∃ v',e=.returned v'/\dU .u64 w v' (lq l)/\w'=w:=by
 obtain ⟨a,c,rfl⟩:=hv.sl;have iB:=hv.2.1;have HV:=hd' hv;have HT:Hid (lq l=l.take (eY l l.length)):=hd' rfl;clear hv;go_enter Tryz.func119,Tryz.ntmps119;go_wp2_with fail;go_loopw [0] (fun v wr=>∃ m:Nat,m<=l.length/\v=.slice a m c/\wr=w/\Hid (eY l l.length=eY l m)) (fun v _=>Y3 v)
 case atStart=>exact ⟨l.length,Nat.le_refl _,rfl,rfl,hd' rfl⟩
 case round=>
  obtain ⟨m,hm,rfl,rfl,HM⟩:=hrel;by_cases h0:m=0
  ·subst h0;go_wp2_with fail;go_ret;exact ⟨_,rfl,by rw [HT.out,HM.out];exact HV.out.take (Nat.zero_le _),rfl⟩
  ·obtain ⟨j,hj⟩:∃ j,j=m - 1:=⟨_,rfl⟩;obtain ⟨g,o,rfl,hlc,hcell⟩:=HV.out.at_ (Fr.refl _ _) (by omega);have d0:=hcell j (by omega);have Mv:Hid (eY l m=if l.getD j 0=0 then eY l j else m):=hd' (by
    obtain rfl:m=j+1:=by omega
    rw [eY])
   clear hcell;generalize l.getD j 0=x at *;have s1:(m:Int) - 1=(j:Int):=by omega
   have k1:(0:Int)<m:=by omega
   have k2:(0:Int)<=j:=by omega
   have k3:(j:Int)<m:=by omega
   have k4:(j:Int)<=c:=by omega
   clear hj;by_cases hx:x=0
   ·subst hx;go_wp2_with fail;go_roundw
    case rel=>exact ⟨j,by omega,rfl,trivial,hd' (by rw [HM.out,Mv.out];rfl)⟩
    case measure=>simp [Y3];omega
   ·(have Bp:¬ (x:Int)=0:=by omega);go_wp2_with fail;go_ret;exact ⟨_,rfl,by rw [HT.out,HM.out,Mv.out,if_neg hx];exact HV.out.take hm,rfl⟩
theorem AE (l:List Nat) (v:Value) (i:Nat) (w:World) (hv:dU .u64 w v l) (hi:i<=1125899906842624) :
  Calls Tryz.prog 120 #[v,.int .i64 i] w fun e w'=>e=.returned (dV .u64 (l.getD i 0))/\w'=w:=by
 obtain ⟨a,c,rfl⟩:=hv.sl;have iB:=hv.2.1;have k1:(0:Int)<=i:=by omega
 by_cases h:i<l.length
 ·obtain ⟨g,o,rfl,hlc,hcell⟩:=hv.at_ (Fr.refl _ _) (by omega);have d0:=hcell i h;have k2:(i:Int)<l.length:=by omega
  clear hcell hv;generalize l.getD i 0=x at *;go_enter Tryz.func120,Tryz.ntmps120;go_wp2_with fail;go_ret;exact ⟨rfl,rfl⟩
 ·have k2:¬ (i:Int)<l.length:=by omega
  have HX:Hid (l.getD i 0=0):=hd' (by rw [List.getD_eq_getElem?_getD,List.getElem?_eq_none (by omega)];rfl);clear hv;generalize l.getD i 0=x at *;go_enter Tryz.func120,Tryz.ntmps120;go_wp2_with fail;go_ret;exact ⟨by rw [HX.out];rfl,rfl⟩
theorem iL (a b:Nat) (ha:a<18446744073709551616) (hb:b<18446744073709551616):bits .and .u64 (a:Int) (b:Int)=((a &&& b:Nat):Int):=by
 have h1:(BitVec.ofInt 64 (a:Int)).toNat=a:=by
  rw [BitVec.ofInt_natCast,BitVec.toNat_ofNat];exact Nat.mod_eq_of_lt ha
 have h2:(BitVec.ofInt 64 (b:Int)).toNat=b:=by
  rw [BitVec.ofInt_natCast,BitVec.toNat_ofNat];exact Nat.mod_eq_of_lt hb
 show IntKind.u64.wrap ((BitVec.ofInt 64 (a:Int) &&& BitVec.ofInt 64 (b:Int)).toNat:Int)=_;rw [BitVec.toNat_and,h1,h2,IntKind.wrap_u64];have:=Nat.and_le_left (n:=a) (m:=b);omega
theorem mJ (a b:Nat) (ha:a<4294967296) (hb:b<4294967296):bits .and .u32 (a:Int) (b:Int)=((a &&& b:Nat):Int):=by
 have h1:(BitVec.ofInt 32 (a:Int)).toNat=a:=by
  rw [BitVec.ofInt_natCast,BitVec.toNat_ofNat];exact Nat.mod_eq_of_lt ha
 have h2:(BitVec.ofInt 32 (b:Int)).toNat=b:=by
  rw [BitVec.ofInt_natCast,BitVec.toNat_ofNat];exact Nat.mod_eq_of_lt hb
 show IntKind.u32.wrap ((BitVec.ofInt 32 (a:Int) &&& BitVec.ofInt 32 (b:Int)).toNat:Int)=_;rw [BitVec.toNat_and,h1,h2,IntKind.wrap_u32];have:=Nat.and_le_left (n:=a) (m:=b);omega
theorem qZ (n:Nat) (h:n<18446744073709551616):bits .and .u64 (n:Int) 65535=((n % 65536:Nat):Int):=by
 have:=iL n 65535 h (by omega);rw [show n &&& 65535=n % 65536 from Nat.and_two_pow_sub_one_eq_mod n 16] at this;exact this
theorem EC (n:Nat) (h:n<4294967296):bits .and .u32 (n:Int) 65535=((n % 65536:Nat):Int):=by
 have:=mJ n 65535 h (by omega);rw [show n &&& 65535=n % 65536 from Nat.and_two_pow_sub_one_eq_mod n 16] at this;exact this
theorem AF (n:Nat) (h:n<18446744073709551616):bits .and .u64 (n:Int) 1=((n % 2:Nat):Int):=by
 have:=iL n 1 h (by omega);rw [Nat.and_one_is_mod] at this;exact this
theorem cC {c res:Nat} {w:World} (d:Nat) (h:res=c / d % 2) (hc:c<65536):Ending.returned (.int .u64 (bits .and .u64 ((c:Int) / (d:Int)) 1))=.returned (.int .u64 (res:Int))/\w=w:=by
 refine ⟨?_,rfl⟩;rw [h,<- Int.natCast_ediv,AF _ (Nat.lt_of_le_of_lt (Nat.div_le_self _ _) (by omega))]
theorem SN {V r:Nat} (hr:r<16):V % 65536 / 2 ^ r % 2=V / 2 ^ r % 2:=by
 rcases (show r=0\/r=1\/r=2\/r=3\/r=4\/r=5\/r=6\/r=7\/r=8\/r=9\/r=10\/r=11\/r=12\/r=13\/r=14\/r=15 by omega) with rfl|rfl|rfl|rfl|rfl|rfl|rfl|rfl|rfl|rfl|rfl|rfl|rfl|rfl|rfl|rfl
 all_goals (simp only [Nat.reducePow];omega)
theorem SP {l:List Nat} (h:bl l) (k:Nat):l.getD (k / 16) 0 / 2 ^ (k % 16) % 2=ae l / 2 ^ k % 2:=by
 rw [<- sH h,SN (Nat.mod_lt _ (by decide)),Nat.div_div_eq_div_mul,show (65536:Nat)=2 ^ 16 from rfl,<- Nat.pow_mul,<- Nat.pow_add,Nat.div_add_mod]
theorem G8 {V n:Nat} (h:V<2 ^ (n+1)) (h0:V / 2 ^ n % 2=0):V<2 ^ n:=by
 have h1:V / 2 ^ n<2:=Nat.div_lt_of_lt_mul (by rw [Nat.pow_succ] at h;exact h);have h2:V / 2 ^ n=0:=by generalize V / 2 ^ n=q at *;omega
 exact (Nat.div_eq_zero_iff_lt (Nat.pow_pos (by decide))).1 h2
theorem G9 {V n:Nat} (h0:V / 2 ^ n % 2=1):2 ^ n<=V:=by
 refine Decidable.byContradiction fun hc => ?_;rw [Nat.div_eq_of_lt (by omega)] at h0;cases h0
theorem pM (l:List Nat) (v:Value) (k:Nat) (w:World) (hv:dU .u64 w v l) (hk:k<=1125899906842624) :
  Calls Tryz.prog 73 #[v,.int .i64 k] w fun e w'=>e=.returned (dV .u64 (ae l / 2 ^ k % 2))/\w'=w:=by
 obtain ⟨q,hq⟩:∃ q,q=k / 16:=⟨_,rfl⟩;obtain ⟨r,hr⟩:∃ r,r=k % 16:=⟨_,rfl⟩;have HD:=hd' (AE l v q w hv (by omega));have HB:Hid (ae l / 2 ^ k % 2=l.getD q 0 / 2 ^ r % 2):=hd' (by rw [hq,hr,SP hv.1]);have ja:=hv.1.at q;have e1:(k:Int).tdiv 16=(q:Int):=by rw [Int.tdiv_eq_ediv_of_nonneg (by omega)];omega
 have e2:(k:Int).tmod 16=(r:Int):=by rw [Int.tmod_eq_emod_of_nonneg (by omega)];omega
 have e3:(k:Int) / 16=(q:Int):=by omega
 have e4:(k:Int) % 16=(r:Int):=by omega
 have V1:r<16:=by omega
 generalize ae l / 2 ^ k % 2=res at *;generalize l.getD q 0=x at *;clear hq hr hv;rcases (show r=0\/r=1\/r=2\/r=3\/r=4\/r=5\/r=6\/r=7\/r=8\/r=9\/r=10\/r=11\/r=12\/r=13\/r=14\/r=15 by omega) with rfl|rfl|rfl|rfl|rfl|rfl|rfl|rfl|rfl|rfl|rfl|rfl|rfl|rfl|rfl|rfl
 all_goals (simp only [Nat.reducePow,Nat.div_one] at HB)
 all_goals go_enter Tryz.func73,Tryz.ntmps73
 all_goals go_wp2_with (go_at_call 120;((with_reducible refine HD.out.mono ?_);rintro e w1 ⟨rfl,rfl⟩))
 all_goals go_ret
 ·exact ⟨by rw [HB.out];exact congrArg (fun z=>Ending.returned (.int .u64 z)) (AF _ (by omega)),rfl⟩
 ·exact cC 2 HB.out ja
 ·exact cC 4 HB.out ja
 ·exact cC 8 HB.out ja
 ·exact cC 16 HB.out ja
 ·exact cC 32 HB.out ja
 ·exact cC 64 HB.out ja
 ·exact cC 128 HB.out ja
 ·exact cC 256 HB.out ja
 ·exact cC 512 HB.out ja
 ·exact cC 1024 HB.out ja
 ·exact cC 2048 HB.out ja
 ·exact cC 4096 HB.out ja
 ·exact cC 8192 HB.out ja
 ·exact cC 16384 HB.out ja
 ·exact cC 32768 HB.out ja
theorem C8 {l:List Nat} (h:bl l):ae l<2 ^ (16*l.length):=by
 have:=cZ h;rwa [show (65536:Nat)=2 ^ 16 from rfl,<- Nat.pow_mul] at this
theorem sO (l:List Nat) (v:Value) (w:World) (hv:dU .u64 w v l) :
  Calls Tryz.prog 74 #[v] w fun e w'=>∃ n:Nat,e=.returned (.int .i64 n)/\lP (ae l) n/\w'=w:=by
 obtain ⟨a,c,rfl⟩:=hv.sl;have iB:=hv.2.1;have HB:Hid (∀ (k:Nat),k<=1125899906842624->Calls Tryz.prog 73 #[.slice a l.length c,.int .i64 k] w fun e w'=>e=.returned (dV .u64 (ae l / 2 ^ k % 2))/\w'=w):=hd' (fun k hk=>pM l _ k w hv hk);have HS:=hd' (C8 hv.1);generalize ae l=V at *;clear hv;go_enter Tryz.func74,Tryz.ntmps74;go_wp2_with fail;go_loopw [3] (fun v wr=>∃ n:Nat,n<=16*l.length/\v=.int .i64 n/\wr=w/\Hid (V<2 ^ n)) (fun v _=>(intOf v).toNat)
 case atStart=>exact ⟨16*l.length,Nat.le_refl _,by simp,rfl,HS⟩
 case round=>
  obtain ⟨n,hn,rfl,rfl,HV⟩:=hrel;by_cases h0:n=0
  ·subst h0;go_wp2_with fail;go_ret;exact ⟨0,rfl,⟨HV.out,fun h=>absurd rfl h⟩,rfl⟩
  ·obtain ⟨j,hj⟩:∃ j,j=n - 1:=⟨_,rfl⟩;have HN:Hid (n=j+1):=hd' (by omega);have s1:(n:Int) - 1=(j:Int):=by omega
   have k1:(0:Int)<n:=by omega
   have k2:(0:Int)<=j:=by omega
   have lF:=hd' (HB.out j (by omega));have ju:V / 2 ^ j % 2<2:=Nat.mod_lt _ (by decide);obtain ⟨b,hb⟩:∃ b,b=V / 2 ^ j % 2:=⟨_,rfl⟩;rw [<- hb] at lF ju;have HBB:=hd' hb;clear hj hb;rcases (show b=0\/b=1 by omega) with rfl|rfl
   ·go_wp2_with (go_at_call 73;((with_reducible refine lF.out.mono ?_);rintro e w1 ⟨rfl,rfl⟩));go_roundw
    case rel=>exact ⟨j,by omega,rfl,trivial,hd' (G8 (by rw [<- HN.out];exact HV.out) HBB.out.symm)⟩
    case measure=>simp [intOf];omega
   ·go_wp2_with (go_at_call 73;((with_reducible refine lF.out.mono ?_);rintro e w1 ⟨rfl,rfl⟩));go_ret;exact ⟨n,rfl,⟨HV.out,fun _=>by rw [show n - 1=j by have:=HN.out;omega];exact G9 HBB.out.symm⟩,rfl⟩
theorem wY (x y:Nat):(0<=fp x y) ↔ y<=x:=by
 unfold fp;by_cases h:x<y
 ·rw [if_pos h];constructor<;>intro h2<;>omega
 ·rw [if_neg h];by_cases h3:y<x
  ·rw [if_pos h3];constructor<;>intro h2<;>omega
  ·rw [if_neg h3];constructor<;>intro h2<;>omega
theorem zY (s:Bs) (w:World) (hl:s.length<=33554432) :
  Calls Tryz.prog 71 #[.string ⟨s.toArray⟩] w fun e w'=>∃ v l,e=.returned v/\dU .u64 w' v l/\BF l/\ae l=ar s/\Fr NoB w w':=by
 obtain ⟨h,hh⟩:∃ h,h=s.length / 2:=⟨_,rfl⟩;obtain ⟨n,hn⟩:∃ n,n=h+1:=⟨_,rfl⟩;have mV:=run_make_row' (P:=Tryz.prog) 110 113 (.int .u64 0) 8 Tryz.underlying110 lM rfl .i64 .i64 n (by omega) (by omega);rw [oT] at mV;have e1:(s.length:Int).tdiv 2=(h:Int):=by rw [Int.tdiv_eq_ediv_of_nonneg (by omega)];omega
 have e2:(s.length:Int) / 2=(h:Int):=by omega
 have e3:(h:Int)+1=(n:Int):=by omega
 have hsz:(⟨s.toArray⟩:ByteArray).size=s.length:=rfl;have HN:Hid (n=s.length / 2+1):=hd' (by omega);have f0:Fr NoB w (w.alloc (.cells (Array.replicate n (Value.int .u64 0)) 113)):=(Fr.refl _ _).alloc _;have b0:=Blk.new w 113 (Array.replicate n (Value.int .u64 0));clear hh hn;go_enter Tryz.func71,Tryz.ntmps71;go_upto_region 2 with fail;generalize w.alloc (.cells (Array.replicate n (Value.int .u64 0)) 113)=W at *;rw [mI] at b0;go_wp2_with fail;go_loopw [4] (fun v wr=>∃ (i:Nat) (l:List Nat),i<=s.length/\v=.int .i64 i/\bl l/\Hid (l.length=n)/\Hid (ae l=ar (s.drop (s.length - i)))/\Blk wr w.heap.size 113 (l.map (dV .u64)).toArray/\Fr NoB w wr) (fun v _=>s.length - (intOf v).toNat)
 case atStart=>exact ⟨0,List.replicate n 0,Nat.zero_le _,rfl,bl.ED n,hd' (by simp),hd' (by rw [iA];simp [ar]),b0,f0⟩
 case round=>
  clear b0 f0 mV e1 e2 e3;obtain ⟨i,l,hi,rfl,bX,WT,HV,hb,hf⟩:=hrel;by_cases hlt:i<s.length
  ·obtain ⟨p,hp⟩:∃ p,p=s.length - 1 - i:=⟨_,rfl⟩;obtain ⟨q,hq⟩:∃ q,q=i / 2:=⟨_,rfl⟩;have tZ:q<l.length:=by have:=WT.out;have:=HN.out;omega
   have HST:=hd' (wX (l:=l) hlt bX (by rw [<- hq];exact tZ) HV.out);rw [<- hq,<- hp] at HST;have hpl:p<s.length:=by omega
   have hg:=aM s p hpl;have hgd:s.getD p 0=s[p]:=by rw [List.getD_eq_getElem?_getD,List.getElem?_eq_getElem hpl];rfl
   rw [hgd] at HST;clear hgd;generalize s[p]=c at *;have tY:=c.toNat_lt;have k1:(0:Int)<=i:=by omega
   have k2:(i:Int)<s.length:=by omega
   have s1:(s.length:Int) - 1 - (i:Int)=(p:Int):=by omega
   have k3:(0:Int)<=p:=by omega
   have k4:(p:Int)<s.length:=by omega
   have e1:(i:Int).tdiv 2=(q:Int):=by rw [Int.tdiv_eq_ediv_of_nonneg (by omega)];omega
   have e3:(i:Int) / 2=(q:Int):=by omega
   have k5:(0:Int)<=q:=by omega
   have k6:(q:Int)<n:=by have:=WT.out;omega
   have d0:=iI hb tZ;have dz:=hb.frozen q;have rC:=bX.at q;have HB:=hd' (fun x:Nat=>sL hb q x);have HI:=hd' (fun x hx=>bX.set q x hx);have HF:=hd' (fun x:Nat=>hf.setCell_new (p:=⟨w.heap.size,q,none⟩) (Nat.le_refl _) (dV .u64 x));have WU:Hid (∀ x:Nat,(l.set q x).length=n):=hd' (fun x=>by rw [List.length_set];exact WT.out);clear hp hq bX hb hf tZ WT HV;generalize l.getD q 0=x0 at *;rcases Nat.mod_two_eq_zero_or_one i with hm|hm
   ·(have e2:(i:Int).tmod 2=0:=by rw [Int.tmod_eq_emod_of_nonneg (by omega)];omega);(have e4:(i:Int) % 2=0:=by omega);(have rA:DH c.toNat i=c.toNat:=by unfold DH;rw [if_neg (by omega)]);rw [rA] at HST;(have s2:(x0:Int)+(c.toNat:Int)=((x0+c.toNat:Nat):Int):=by omega);have Qd:=HST.out.2;generalize x0+c.toNat=x1 at *;clear rA hm;go_wp2_with fail;go_roundw
    case rel=>exact ⟨i+1,_,by omega,by simp,HI.out x1 Qd,hd' (WU.out x1),hd' HST.out.1,HB.out x1,HF.out x1⟩
    case measure=>simp [intOf];omega
   ·(have e2:(i:Int).tmod 2=1:=by rw [Int.tmod_eq_emod_of_nonneg (by omega)];omega);(have e4:(i:Int) % 2=1:=by omega);(have rA:DH c.toNat i=c.toNat*256:=by unfold DH;rw [if_pos hm]);rw [rA] at HST;(have s2:(x0:Int)+(c.toNat:Int)*256=((x0+c.toNat*256:Nat):Int):=by omega);have Qd:=HST.out.2;generalize x0+c.toNat*256=x1 at *;clear rA hm;go_wp2_with fail;go_roundw
    case rel=>exact ⟨i+1,_,by omega,by simp,HI.out x1 Qd,hd' (WU.out x1),hd' HST.out.1,HB.out x1,HF.out x1⟩
    case measure=>simp [intOf];omega
  ·obtain rfl:i=s.length:=by omega
   have iB:l.length=n:=WT.out;have HR:=hd' (C7 l (.slice (some ⟨w.heap.size,0,none⟩) n n) wr (by
    have:=dU.iZ (c:=n) hb bX (by have:=HN.out;omega) (by omega);rwa [iB] at this))
   have ZC:Hid (ae l=ar s):=hd' (by have:=HV.out;simpa using this);clear hb iB;go_wp2_with (go_at_call 119;((with_reducible refine HR.out.mono ?_);rintro e w1 ⟨v1,rfl,h1,rfl⟩));go_ret;exact ⟨_,_,rfl,h1,ik l,by rw [dY];exact ZC.out,hf⟩
theorem Hc {l:List Nat} {j:Nat} (h:j<l.length):ae (l.drop j)=l.getD j 0+65536*ae (l.drop (j+1)):=by
 rw [List.drop_eq_getElem_cons h,ae,List.getD_eq_getElem?_getD,List.getElem?_eq_getElem h];rfl
theorem Lo {b r:Bs} (h:tu b) (hb:b≠[]):tu (b++r):=by
 intro c t e;cases b with
 | nil=>exact absurd rfl hb
 | cons d q=>
  rw [List.cons_append] at e;cases e;exact h c q rfl
theorem vY {lo:Nat} {w:World} {v:Value} {s:Bs} (h:BR lo w v s):∃ ao c,v=.slice ao s.length c:=by
 rcases h.2 with ⟨rfl,h0⟩|⟨g,cap,cur,rfl,_⟩
 ·exact ⟨none,0,by rw [h0]⟩
 ·exact ⟨_,_,rfl⟩
theorem Qn {n:Nat} (h:n<256):∃ c:UInt8,c.toNat=n:=⟨n.toUInt8,by simp [Nat.toUInt8,UInt8.toNat_ofNat',Nat.mod_eq_of_lt h]⟩
theorem sN (l:List Nat) (v:Value) (w:World) (hv:dU .u64 w v l) (ht:BF l) :
  Calls Tryz.prog 72 #[v] w fun e w'=>∃ f:Bs,e=.returned (.string ⟨f.toArray⟩)/\tu f/\ar f=ae l/\Fr NoB w w':=by
 obtain ⟨a,c,rfl⟩:=hv.sl;have iB:=hv.2.1;have HV:=hd' hv;have ab1:Hid (∀ n,l.length=n+1->l.getD n 0≠0):=hd' ht;clear hv ht;go_enter Tryz.func72,Tryz.ntmps72;go_upto_region 2 with fail;have Nc:BR w.heap.size (w.alloc (.cells #[] 5)) (.slice (some ⟨w.heap.size,0,none⟩) 0 0) []:=BR.first w #[] [] rfl (by simp)
 have f0:Fr NoB w (w.alloc (.cells #[] 5)):=(Fr.refl _ _).alloc _;generalize w.alloc (.cells #[] 5)=W at *;go_wp2_with fail;go_loopw [3,4] (fun v3 v4 wr=>∃ (m:Nat) (z:Int) (b:Bs),m<=l.length/\v4=.int .i64 z/\Hid (z=(m:Int) - 1)/\BR w.heap.size wr v3 b/\b.length<=2*(l.length - m)/\(m<l.length ↔ b≠[])/\Hid (tu b/\ar b=ae (l.drop m))/\Fr NoB w wr) (fun _ v4 _=>(intOf v4+1).toNat)
 case atStart=>exact ⟨l.length,_,[],Nat.le_refl _,rfl,hd' rfl,Nc,Nat.zero_le _,by simp,hd' ⟨fun c r h=>by (cases h),by simp [ar,ae]⟩,f0⟩
 case round=>
  clear Nc f0;obtain ⟨m,z,b,hm,rfl,HZ,hb,ju,MG,HB,hf⟩:=hrel;have hz:=HZ.out;by_cases h0:m=0
  ·subst h0;have k1:z<0:=by omega
   have iE:=hb.conv;clear hz MG;go_wp2_with fail;go_ret;exact ⟨b,rfl,HB.out.1,by have:=HB.out.2;simpa using this,hf⟩
  ·obtain ⟨j,hj⟩:∃ j,j=m - 1:=⟨_,rfl⟩;obtain rfl:z=(j:Int):=by omega
   have HM:Hid (m=j+1):=hd' (by omega);have qq:j<l.length:=by omega
   have k0:¬ (j:Int)<0:=by omega
   have k1:(0:Int)<=j:=by omega
   have k2:(j:Int)<l.length:=by omega
   obtain ⟨g,o,rfl,hlc,hcell⟩:=HV.out.at_ hf (by omega);have hlg:g<w.heap.size:=by
    rcases HV.out.2.2 with ⟨h4,_⟩|⟨g',o',c',h4,_,h6,_⟩
    ·rw [h4] at qq;simp at qq
    ·cases h4;exact h6
   have d0:=hcell j qq;have HD:=hd' (Hc qq);have ja:=HV.out.1.at j;have Yn:Hid (b=[]->l.getD j 0≠0):=hd' (fun e=>ab1.out j (by
    have:¬ m<l.length:=fun h=>MG.1 h e;omega))
   have HX:Hid (ar b=ae (l.drop (j+1))):=hd' (by rw [<- HM.out];exact HB.out.2);have CH:=hd' HB.out.1;clear hcell hj hz HB;obtain ⟨x,Ra⟩:∃ x,l.getD j 0=x:=⟨_,rfl⟩;rw [Ra] at d0 HD ja Yn;obtain ⟨hi,lC⟩:=Qn (n:=x / 256) (by omega);obtain ⟨lo,cN⟩:=Qn (n:=x % 256) (by omega);have hh1:=hi.toNat_lt;have MJ:=lo.toNat_lt;have Gn:Hid ((x:Int) / 256=(hi.toNat:Int)):=hd' (by omega);have EE:Hid ((x:Int) % 256=(lo.toNat:Int)):=hd' (by omega);have ab2:=hf.size;have HS:Hid (∀ u,Fr NoB w u->u.cell? ⟨g,o+j,none⟩=some (dV .u64 x)):=hd' (fun u f=>by
    obtain ⟨g2,o2,e9,_,hc⟩:=HV.out.at_ f (by omega);cases e9;have:=hc j qq;rwa [Ra] at this)
   by_cases zF:b=[]
   ·subst zF;have rC:=Yn.out rfl;(have k3:¬ (0:Int)<(([]:Bs).length:Int):=by simp);obtain ⟨ao,ca,rfl⟩:=vY hb;by_cases Ld:x<=255
    ·(have k4:¬ (255:Int)<(x:Int):=by omega);have fA:Fr NoB wr (wr.alloc (.cells #[.int .u8 ((x:Int) % 256)] 5)):=(Fr.refl _ _).alloc _;have hA:=hb.fr fA;clear lC;go_wp2_with (at_builtin;go_loud (refine dL rfl _ _ rfl w.heap.size (.slice ao 0 ca) ([]) rfl hA wr.heap.size 1 1 [lo] rfl rfl (aF wr #[.int .u8 ((x:Int) % 256)] [lo] (by rw [EE.out];rfl)) (by simp<;>omega) (by simp<;>omega) ?_;intro v4 w4 aB Lp));go_roundw
     case rel=>exact ⟨j,_,_,by omega,rfl,hd' rfl,aB,by simp<;>omega,by simp<;>omega,hd' ⟨fun c r e=>(by simp at e;obtain ⟨rfl,rfl⟩:=e;intro e0;subst e0;simp at cN;omega),by rw [HD.out,<- HX.out];simp [ar];omega⟩,hA.grown (hf.trans fA) Lp (Nat.le_refl _)⟩
     case measure=>(simp [intOf]<;>omega)
    ·(have k4:(255:Int)<(x:Int):=by omega);have fA:Fr NoB wr (wr.alloc (.cells #[.int .u8 ((x:Int) / 256)] 5)):=(Fr.refl _ _).alloc _;have hA:=hb.fr fA;go_upto_region 7 with (at_builtin;go_loud (refine dL rfl _ _ rfl w.heap.size (.slice ao 0 ca) ([]) rfl hA wr.heap.size 1 1 [hi] rfl rfl (aF wr #[.int .u8 ((x:Int) / 256)] [hi] (by rw [Gn.out];rfl)) (by simp<;>omega) (by simp<;>omega) ?_;intro v4 w4 aB Lp));have f4:Fr NoB w w4:=hA.grown (hf.trans fA) Lp (Nat.le_refl _);have d1:=HS.out w4 f4;have h4s:=f4.size;have fB:Fr NoB w4 (w4.alloc (.cells #[.int .u8 ((x:Int) % 256)] 5)):=(Fr.refl _ _).alloc _;have hB:=aB.fr fB;clear d0;go_wp2_with (at_builtin;go_loud (refine dL rfl _ _ rfl w.heap.size v4 ([]++[hi]) rfl hB w4.heap.size 1 1 [lo] rfl rfl (aF w4 #[.int .u8 ((x:Int) % 256)] [lo] (by rw [EE.out];rfl)) (by simp<;>omega) (by simp<;>omega) ?_;intro v5 w5 sB SQ));go_roundw
     case rel=>exact ⟨j,_,_,by omega,rfl,hd' rfl,sB,by simp<;>omega,by simp<;>omega,hd' ⟨fun c r e=>(by simp at e;obtain ⟨rfl,rfl⟩:=e;intro e0;subst e0;simp at lC;omega),by rw [iU,iU,HX.out,HD.out];omega⟩,hB.grown (f4.trans fB) SQ (Nat.le_refl _)⟩
     case measure=>(simp [intOf]<;>omega)
   ·have hbp:=List.length_pos_iff.2 zF;(have k3:(0:Int)<b.length:=by omega);obtain ⟨ao,ca,rfl⟩:=vY hb;have fA:Fr NoB wr (wr.alloc (.cells #[.int .u8 ((x:Int) / 256)] 5)):=(Fr.refl _ _).alloc _;have hA:=hb.fr fA;go_upto_region 7 with (at_builtin;go_loud (refine dL rfl _ _ rfl w.heap.size (.slice ao b.length ca) (b) rfl hA wr.heap.size 1 1 [hi] rfl rfl (aF wr #[.int .u8 ((x:Int) / 256)] [hi] (by rw [Gn.out];rfl)) (by simp<;>omega) (by simp<;>omega) ?_;intro v4 w4 aB Lp));have f4:Fr NoB w w4:=hA.grown (hf.trans fA) Lp (Nat.le_refl _);have d1:=HS.out w4 f4;have h4s:=f4.size;have fB:Fr NoB w4 (w4.alloc (.cells #[.int .u8 ((x:Int) % 256)] 5)):=(Fr.refl _ _).alloc _;have hB:=aB.fr fB;clear d0;go_wp2_with (at_builtin;go_loud (refine dL rfl _ _ rfl w.heap.size v4 (b++[hi]) rfl hB w4.heap.size 1 1 [lo] rfl rfl (aF w4 #[.int .u8 ((x:Int) % 256)] [lo] (by rw [EE.out];rfl)) (by simp<;>omega) (by simp<;>omega) ?_;intro v5 w5 sB SQ));go_roundw
    case rel=>exact ⟨j,_,_,by omega,rfl,hd' rfl,sB,(by have qR:=HM.out;simp;omega),by simp<;>omega,hd' ⟨by rw [List.append_assoc];exact Lo CH.out zF,by rw [iU,iU,HX.out,HD.out];omega⟩,hB.grown (f4.trans fB) SQ (Nat.le_refl _)⟩
    case measure=>(simp [intOf]<;>omega)
theorem Gl (a b:List Nat) (va vb:Value) (w:World) (ha:dU .u64 w va a) (hb:dU .u64 w vb b) (ta:BF a) (tb:BF b) :
  Calls Tryz.prog 75 #[va,vb] w fun e w'=>e=.returned (.int .i64 (fp (ae a) (ae b)))/\Fr NoB w w':=by
 obtain ⟨aa,ca,rfl⟩:=ha.sl;obtain ⟨ab,cb,rfl⟩:=hb.sl;have DY:=ha.2.1;have EZ:=hb.2.1;rcases Nat.lt_trichotomy a.length b.length with hl|hl|hl
 ·have HR:Hid (fp (ae a) (ae b) = -1):=hd' (by unfold fp;rw [if_pos (x8 tb ha.1 hl)]);have k1:(a.length:Int)<b.length:=by omega
  clear ha hb ta tb hl;generalize fp (ae a) (ae b)=res at *;go_enter Tryz.func75,Tryz.ntmps75;go_wp2_with fail;go_ret;exact ⟨by rw [HR.out];rfl,Fr.refl _ _⟩
 ·have HA:=hd' ha;have HB:=hd' hb;have k1:¬ (a.length:Int)<b.length:=by omega
  have k2:¬ (b.length:Int)<a.length:=by omega
  have HL:Hid (a.length=b.length):=hd' hl;obtain ⟨res,aH⟩:∃ r,r=fp (ae a) (ae b):=⟨_,rfl⟩;rw [<- aH];have bV:=hd' aH;clear ha hb ta tb hl aH;go_enter Tryz.func75,Tryz.ntmps75;go_wp2_with fail;go_loopw [5] (fun v wr=>∃ (m:Nat) (z:Int),m<=a.length/\v=.int .i64 z/\Hid (z=(m:Int) - 1)/\Hid (a.drop m=b.drop m)/\Fr NoB w wr) (fun v _=>(intOf v+1).toNat)
  case atStart=>exact ⟨a.length,_,Nat.le_refl _,rfl,hd' rfl,hd' (by rw [List.drop_length,HL.out,List.drop_length]),Fr.refl _ _⟩
  case round=>
   obtain ⟨m,z,hm,rfl,HZ,HD,hf⟩:=hrel;have hz:=HZ.out;by_cases h0:m=0
   ·subst h0;(have k3:z<0:=by omega);have HR:Hid (res=0):=hd' (by
     rw [bV.out];(have h9:a=b:=by simpa using HD.out);unfold fp;rw [h9,if_neg (Nat.lt_irrefl _),if_neg (Nat.lt_irrefl _)])
    clear hz;go_wp2_with fail;go_ret;exact ⟨by rw [HR.out];rfl,hf⟩
   ·obtain ⟨j,hj⟩:∃ j,j=m - 1:=⟨_,rfl⟩;obtain rfl:z=(j:Int):=by omega
    have HM:Hid (m=j+1):=hd' (by omega);(have qq:j<a.length:=by omega);(have hjb:j<b.length:=by have:=HL.out;omega);(have k0:¬ (j:Int)<0:=by omega);(have k3:(0:Int)<=j:=by omega);(have k4:(j:Int)<a.length:=by omega);(have k5:(j:Int)<b.length:=by omega);obtain ⟨g,o,rfl,hlc,hc1⟩:=HA.out.at_ hf (by omega);obtain ⟨g2,o2,rfl,AG,WV⟩:=HB.out.at_ hf (by omega);have d0:=hc1 j qq;have d1:=WV j hjb;have ja:=HA.out.1.at j;have pj:=HB.out.1.at j;have SR:Hid (a.drop (j+1)=b.drop (j+1)):=hd' (by rw [<- HM.out];exact HD.out);have uL:Hid (a.getD j 0<b.getD j 0->res = -1):=hd' (fun h=>by
     rw [bV.out];unfold fp;rw [if_pos (x9 HA.out.1 HL.out qq SR.out h)])
    have qC:Hid (b.getD j 0<a.getD j 0->res=1):=hd' (fun h=>by
     rw [bV.out];have h9:=x9 HB.out.1 HL.out.symm hjb SR.out.symm h;unfold fp;rw [if_neg (by omega),if_pos h9])
    have Gn:Hid (a.getD j 0=b.getD j 0->a.drop j=b.drop j):=hd' (fun h=>we HL.out qq SR.out h);clear hc1 WV hj hz;generalize a.getD j 0=x at *;generalize b.getD j 0=y at *;rcases Nat.lt_trichotomy x y with h|h|h
    ·(have e1:(x:Int)<y:=by omega);have HR:=hd' (uL.out h);go_wp2_with fail;go_quiet (fail);go_wp2_with fail;go_ret;exact ⟨by rw [HR.out];rfl,hf.drewN _⟩
    ·(have e1:¬ (x:Int)<y:=by omega);(have e2:¬ (y:Int)<x:=by omega);have HQ:=hd' (Gn.out h);go_wp2_with fail;go_quiet (fail);go_wp2_with fail;go_quiet (fail);go_wp2_with fail;go_roundw
     case rel=>exact ⟨j,_,by omega,rfl,hd' rfl,HQ,hf.drewN _⟩
     case measure=>(simp [intOf]<;>omega)
    ·(have e1:¬ (x:Int)<y:=by omega);(have e2:(y:Int)<x:=by omega);have HR:=hd' (qC.out h);go_wp2_with fail;go_quiet (fail);go_wp2_with fail;go_quiet (fail);go_wp2_with fail;go_ret;exact ⟨by rw [HR.out];rfl,(hf.drewN _).drewN _⟩
 ·have HR:Hid (fp (ae a) (ae b)=1):=hd' (by
   have:=x8 ta hb.1 hl;unfold fp;rw [if_neg (by omega),if_pos this])
  have k1:¬ (a.length:Int)<b.length:=by omega
  have k2:(b.length:Int)<a.length:=by omega
  clear ha hb ta tb hl;generalize fp (ae a) (ae b)=res at *;go_enter Tryz.func75,Tryz.ntmps75;go_wp2_with fail;go_ret;exact ⟨by rw [HR.out];rfl,Fr.refl _ _⟩
theorem ft (l:List Nat) (v:Value) (w:World) (hv:dU .u32 w v l) :
  Calls Tryz.prog 169 #[v] w fun e w'=>∃ v',e=.returned v'/\dU .u32 w v' (lq l)/\w'=w:=by
 obtain ⟨a,c,rfl⟩:=hv.sl;have iB:=hv.2.1;have HV:=hd' hv;have HT:Hid (lq l=l.take (eY l l.length)):=hd' rfl;clear hv;go_enter Tryz.func169,Tryz.ntmps169;go_wp2_with fail;go_loopw [3] (fun v wr=>∃ m:Nat,m<=l.length/\v=.int .i64 m/\wr=w/\Hid (eY l l.length=eY l m)) (fun v _=>(intOf v).toNat)
 case atStart=>exact ⟨l.length,Nat.le_refl _,rfl,rfl,hd' rfl⟩
 case round=>
  obtain ⟨m,hm,rfl,rfl,HM⟩:=hrel;by_cases h0:m=0
  ·subst h0;go_wp2_with fail;go_ret;exact ⟨_,rfl,by rw [HT.out,HM.out];exact HV.out.take (Nat.zero_le _),rfl⟩
  ·obtain ⟨j,hj⟩:∃ j,j=m - 1:=⟨_,rfl⟩;obtain ⟨g,o,rfl,hlc,hcell⟩:=HV.out.at_ (Fr.refl _ _) (by omega);have d0:=hcell j (by omega);have Mv:Hid (eY l m=if l.getD j 0=0 then eY l j else m):=hd' (by
    obtain rfl:m=j+1:=by omega
    rw [eY])
   clear hcell;generalize l.getD j 0=x at *;have s1:(m:Int) - 1=(j:Int):=by omega
   have k1:(0:Int)<m:=by omega
   have k2:(0:Int)<=j:=by omega
   have k3:(j:Int)<l.length:=by omega
   have k5:(0:Int)<=m:=by omega
   have k4:(m:Int)<=c:=by omega
   clear hj;by_cases hx:x=0
   ·subst hx;go_wp2_with fail;go_roundw
    case rel=>exact ⟨j,by omega,rfl,trivial,hd' (by rw [HM.out,Mv.out];rfl)⟩
    case measure=>simp [intOf];omega
   ·(have Bp:¬ (x:Int)=0:=by omega);go_wp2_with fail;go_ret;exact ⟨_,rfl,by rw [HT.out,HM.out,Mv.out,if_neg hx];exact HV.out.take hm,rfl⟩
theorem uJ (a0 b0:List Nat) (va0 vb0:Value) (w:World) (SS:dU .u32 w va0 a0) (Us:dU .u32 w vb0 b0) :
  Calls Tryz.prog 122 #[va0,vb0] w fun e w'=>e=.returned (.int .i64 (fp (ae a0) (ae b0)))/\Fr NoB w w':=by
 have HTA:=hd' (ft a0 va0 w SS);have HTB:=hd' (ft b0 vb0 w Us);have hva:=dY a0;have hvb:=dY b0;have ta:=ik a0;have tb:=ik b0;rw [<- hva,<- hvb];clear SS Us hva hvb;generalize lq a0=a at *;generalize lq b0=b at *;obtain ⟨res,aH⟩:∃ r,r=fp (ae a) (ae b):=⟨_,rfl⟩;rw [<- aH];go_enter Tryz.func122,Tryz.ntmps122;go_upto_region 2 with (first|(go_at_call 169;((with_reducible refine HTA.out.mono ?_);rintro e w1 ⟨va,rfl,ha,rfl⟩))|(go_at_call 169;((with_reducible refine HTB.out.mono ?_);rintro e w2 ⟨vb,rfl,hb,rfl⟩)));obtain ⟨w,hw⟩:∃ x,x=w2:=⟨_,rfl⟩;subst hw;clear HTA HTB;obtain ⟨aa,ca,rfl⟩:=ha.sl;obtain ⟨ab,cb,rfl⟩:=hb.sl;have DY:=ha.2.1;have EZ:=hb.2.1;rcases Nat.lt_trichotomy a.length b.length with hl|hl|hl
 ·have HR:Hid (res = -1):=hd' (by rw [aH];unfold fp;rw [if_pos (x8 tb ha.1 hl)]);have k1:(a.length:Int)<b.length:=by omega
  have k9:¬ (a.length:Int)=b.length:=by omega
  clear ha hb ta tb hl aH;go_wp2_with fail;go_ret;exact ⟨by rw [HR.out];rfl,Fr.refl _ _⟩
 ·have HA:=hd' ha;have HB:=hd' hb;have k1:¬ (a.length:Int)<b.length:=by omega
  have k2:¬ (b.length:Int)<a.length:=by omega
  have HL:Hid (a.length=b.length):=hd' hl;have k9:(a.length:Int)=b.length:=by omega
  have bV:=hd' aH;clear ha hb ta tb hl aH;go_wp2_with fail;go_loopw [5] (fun v wr=>∃ (m:Nat) (z:Int),m<=a.length/\v=.int .i64 z/\Hid (z=(m:Int) - 1)/\Hid (a.drop m=b.drop m)/\Fr NoB w wr) (fun v _=>(intOf v+1).toNat)
  case atStart=>exact ⟨a.length,_,Nat.le_refl _,rfl,hd' (by omega),hd' (by rw [List.drop_length,HL.out,List.drop_length]),Fr.refl _ _⟩
  case round=>
   obtain ⟨m,z,hm,rfl,HZ,HD,hf⟩:=hrel;have hz:=HZ.out;by_cases h0:m=0
   ·subst h0;(have k3:z<0:=by omega);have HR:Hid (res=0):=hd' (by
     rw [bV.out];(have h9:a=b:=by simpa using HD.out);unfold fp;rw [h9,if_neg (Nat.lt_irrefl _),if_neg (Nat.lt_irrefl _)])
    clear hz;go_wp2_with fail;go_ret;exact ⟨by rw [HR.out];rfl,hf⟩
   ·obtain ⟨j,hj⟩:∃ j,j=m - 1:=⟨_,rfl⟩;obtain rfl:z=(j:Int):=by omega
    have HM:Hid (m=j+1):=hd' (by omega);(have qq:j<a.length:=by omega);(have hjb:j<b.length:=by have:=HL.out;omega);(have k0:¬ (j:Int)<0:=by omega);(have k3:(0:Int)<=j:=by omega);(have k4:(j:Int)<a.length:=by omega);(have k5:(j:Int)<b.length:=by omega);obtain ⟨g,o,rfl,hlc,hc1⟩:=HA.out.at_ hf (by omega);obtain ⟨g2,o2,rfl,AG,WV⟩:=HB.out.at_ hf (by omega);have d0:=hc1 j qq;have d1:=WV j hjb;have ja:=HA.out.1.at j;have pj:=HB.out.1.at j;have SR:Hid (a.drop (j+1)=b.drop (j+1)):=hd' (by rw [<- HM.out];exact HD.out);have uL:Hid (a.getD j 0<b.getD j 0->res = -1):=hd' (fun h=>by
     rw [bV.out];unfold fp;rw [if_pos (x9 HA.out.1 HL.out qq SR.out h)])
    have qC:Hid (b.getD j 0<a.getD j 0->res=1):=hd' (fun h=>by
     rw [bV.out];have h9:=x9 HB.out.1 HL.out.symm hjb SR.out.symm h;unfold fp;rw [if_neg (by omega),if_pos h9])
    have Gn:Hid (a.getD j 0=b.getD j 0->a.drop j=b.drop j):=hd' (fun h=>we HL.out qq SR.out h);clear hc1 WV hj hz;generalize a.getD j 0=x at *;generalize b.getD j 0=y at *;rcases Nat.lt_trichotomy x y with h|h|h
    ·(have e1:(x:Int)<y:=by omega);have HR:=hd' (uL.out h);go_wp2_with fail;go_quiet (fail);go_wp2_with fail;go_ret;exact ⟨by rw [HR.out];rfl,hf.drewN _⟩
    ·(have e1:¬ (x:Int)<y:=by omega);(have e2:¬ (y:Int)<x:=by omega);have HQ:=hd' (Gn.out h);go_wp2_with fail;go_quiet (fail);go_wp2_with fail;go_quiet (fail);go_wp2_with fail;go_roundw
     case rel=>exact ⟨j,_,by omega,rfl,hd' rfl,HQ,hf.drewN _⟩
     case measure=>(simp [intOf]<;>omega)
    ·(have e1:¬ (x:Int)<y:=by omega);(have e2:(y:Int)<x:=by omega);have HR:=hd' (qC.out h);go_wp2_with fail;go_quiet (fail);go_wp2_with fail;go_quiet (fail);go_wp2_with fail;go_ret;exact ⟨by rw [HR.out];rfl,(hf.drewN _).drewN _⟩
 ·have HR:Hid (res=1):=hd' (by
   rw [aH];have:=x8 ta hb.1 hl;unfold fp;rw [if_neg (by omega),if_pos this])
  have k1:¬ (a.length:Int)<b.length:=by omega
  have k2:(b.length:Int)<a.length:=by omega
  have k9:¬ (a.length:Int)=b.length:=by omega
  clear ha hb ta tb hl aH;go_wp2_with fail;go_ret;exact ⟨by rw [HR.out];rfl,Fr.refl _ _⟩
def UR (lo:Nat) (w:World) (v:Value) (l:List Nat):Prop:=w.ownsRow lo 155 1 v l.length (l.map (dV .u32))
theorem UR.fr {lo:Nat} {w w':World} {v:Value} {l:List Nat} (h:UR lo w v l) (f:Fr NoB w w'):UR lo w' v l:=Fr.row f h (fun _ _ e=>e)
theorem UR.grown {lo:Nat} {w0 w w':World} {v:Value} {l:List Nat} (h:UR lo w v l) (f:Fr NoB w0 w) (hg:w.grownBy w' v.ownBlock) (cN:w0.heap.size<=lo):Fr NoB w0 w':=
 f.grown hg (fun j hj hlt=>absurd (World.ownsRow.lt h j hj).1 (by omega))
theorem UR.new (w:World):UR w.heap.size (w.alloc (.cells #[] 155)) (.slice (some ⟨w.heap.size,0,none⟩) 0 0) []:=
 ⟨by simp,Or.inr ⟨w.heap.size,0,#[],rfl,Nat.le_refl _,Blk.new w _ _,Nat.le_refl _,by unfold maxLen;omega,rfl,rfl⟩⟩
theorem UR.num {lo:Nat} {w:World} {v:Value} {l:List Nat} (h:UR lo w v l) (h1:bl l) (h2:l.length<=33554432):dU .u32 w v l:=by
 refine ⟨h1,h2,?_⟩;have hc:=@World.ownsRow.cells _ _ _ _ _ _ _ h;rcases h.2 with ⟨e,h0⟩|⟨g,cap,cur,rfl,hg,hh,hn,_⟩
 ·have:l=[]:=List.eq_nil_of_length_eq_zero h0;subst this;exact Or.inl ⟨rfl,none,0,e⟩
 ·refine Or.inr ⟨g,0,cap,rfl,hn,lt_of_block hh,fun i x hx => ?_⟩;have:=hc (g:=g) rfl i (dV .u32 x) (by rw [List.getElem?_map,hx];rfl);rwa [bT] at this
theorem ni {ops:Array Oper} {rest:List Oper} {o:Oper} {a:Act} {Q:Exit->Act->World->Prop} {w:World} (hgd:o.guard=none) (sl x:Operand)
  (ho:o.op=.call { callee:=.builtin .append,args := #[sl,x],argTypes := #[118,118] }) (lo:Nat) (v:Value) (l:List Nat) (hs:a.eval sl=v) (hown:UR lo w v l) (g:Nat) (n:Nat) (hx:a.eval x=.slice (some ⟨g,0,none⟩) 1 1)
  (hc:w.cell? ⟨g,0,none⟩=some (dV .u32 n)) (hsz:l.length<=4398046511104) (cN:lo<=w.heap.size)
  (h:∀ v' w',UR lo w' v' (l++[n])->w.grownBy w' v.ownBlock->wpList Tryz.prog ops Q rest (a.put o.dst v') w'):wpList Tryz.prog ops Q (o::rest) a w:=by
 obtain ⟨i0,jv,hz0,hz1,hz2⟩:=info_parts tr;refine wpList_append_own w hgd sl x 118 ho lo 155 i0 (.int .u32 0) 1 4 Tryz.underlying118 jv hz0 hz1 hz2 rfl (by decide) v l.length (l.map (dV .u32)) hs hown ⟨g,0,none⟩ 1 1 [dV .u32 n] hx (by simp) (fun j u hu => ?_) (fun u hu => ?_) (by unfold maxLen;omega) (by omega) cN (fun v' w' h1 h2 _=>h v' w' ?_ h2)
 ·obtain ⟨hj,rfl⟩:j=0/\u=dV .u32 n:=by
   cases j with
   | zero=>simp at hu;exact ⟨rfl,hu.symm⟩
   | succ j=>simp at hu
  rw [bT,hj];exact hc
 ·rw [List.mem_singleton] at hu;subst hu;rfl
 ·unfold UR;simpa using h1
theorem kC (w:World) (n:Int):(w.alloc (.cells #[.int .u32 n] 155)).cell? ⟨w.heap.size,0,none⟩=some (.int .u32 n):=by
 rw [World.cell?_alloc_mark];rfl
def yH (w:World) (n:Nat) (e:Ending) (w':World):Prop:=∃ v l,e=.returned v/\dU .u32 w' v l/\BF l/\ae l=n/\Fr NoB w w'
theorem getD_none {l:List Nat} {i:Nat} (h:¬ i<l.length):l.getD i 0=0:=by
 rw [List.getD_eq_getElem?_getD,List.getElem?_eq_none (by omega)];rfl
theorem E4 (a b:List Nat) (va vb:Value) (w:World) (ha:dU .u32 w va a) (hb:dU .u32 w vb b) (DY:a.length<=1000000) (EZ:b.length<=1000000) :
  Calls Tryz.prog 203 #[va,vb] w (yH w (ae a+ae b)):=by
 obtain ⟨aa,ca,rfl⟩:=ha.sl;obtain ⟨ab,cb,rfl⟩:=hb.sl;have HA:=hd' ha;have HB:=hd' hb;clear ha hb;go_enter Tryz.func203,Tryz.ntmps203;go_upto_region 2 with fail;have I1:=UR.new w;have f0:Fr NoB w (w.alloc (.cells #[] 155)):=(Fr.refl _ _).alloc _;generalize w.alloc (.cells #[] 155)=W at *;go_wp2_with fail;go_loopw [5,6,7] (fun v5 v6 v7 wr=>∃ (i c:Nat) (out:List Nat),(i<=a.length\/i<=b.length)/\v7=.int .i64 i/\v6=dV .u32 c/\c<=1/\Hid (out.length=i)/\bl out/\UR w.heap.size wr v5 out/\Hid (ae out+c*65536 ^ i=ae (a.take i)+ae (b.take i))/\Fr NoB w wr) (fun _ _ v7 _=>(a.length+b.length) - (intOf v7).toNat)
 case atStart=>exact ⟨0,0,[],Or.inl (Nat.zero_le _),rfl,rfl,Nat.zero_le _,hd' rfl,(fun x hx=>by simp at hx),I1,hd' rfl,f0⟩
 case round=>
  clear I1 f0;obtain ⟨i,c,out,hi,rfl,rfl,hc,HL,bX,hu,HV,hf⟩:=hrel;have k0:(0:Int)<=i:=by omega
  have E8:=hf.size;have hib:i<=1000000:=by omega
  have Br:out.length<=1000000:=by rw [HL.out];exact hib
  obtain ⟨x,hx⟩:∃ x,x=a.getD i 0:=⟨_,rfl⟩;obtain ⟨y,hy⟩:∃ y,y=b.getD i 0:=⟨_,rfl⟩;have ja:x<65536:=by rw [hx];exact HA.out.1.at i
  have pj:y<65536:=by rw [hy];exact HB.out.1.at i
  obtain ⟨q,hq⟩:∃ q,q=c+x+y:=⟨_,rfl⟩;obtain ⟨lo,cN⟩:∃ r,r=q % 65536:=⟨_,rfl⟩;obtain ⟨nM,lC⟩:∃ r,r=q / 65536:=⟨_,rfl⟩;have HST:Hid (ae (out++[lo])+nM*65536 ^ (i+1)=ae (a.take (i+1))+ae (b.take (i+1))):=hd' (by rw [cN,lC];exact C9 HL.out HV.out (by rw [hq,hx,hy]));have HX:Hid (x=a.getD i 0):=hd' hx;have HY:Hid (y=b.getD i 0):=hd' hy;have e1:bits .and .u32 (q:Int) 65535=(lo:Int):=by rw [EC q (by omega),cN]
  have e2:(q:Int) / 65536=(nM:Int):=by omega
  have tv:lo<65536:=by omega
  have Da:nM<=1:=by omega
  have Iy:Hid (bl (out++[lo])):=hd' (bX.snoc tv);have SU:Hid ((out++[lo]).length=i+1):=hd' (by rw [List.length_append,HL.out];rfl);have fA:Fr NoB wr (wr.alloc (.cells #[.int .u32 (lo:Int)] 155)):=(Fr.refl _ _).alloc _;have hA:=hu.fr fA;by_cases h1:i<a.length
  ·have k1:(i:Int)<a.length:=by omega
   obtain ⟨g,o,rfl,hlc,hcell⟩:=HA.out.at_ hf (by omega);have d0:wr.cell? ⟨g,o+i,none⟩=some (dV .u32 x):=by rw [hx];exact hcell i h1
   clear hcell;by_cases h2:i<b.length
   ·(have k2:(i:Int)<b.length:=by omega);obtain ⟨g2,o2,rfl,AG,hcell⟩:=HB.out.at_ hf (by omega);(have d1:wr.cell? ⟨g2,o2+i,none⟩=some (dV .u32 y):=by rw [hy];exact hcell i h2);(have s1:(c:Int)+(x:Int)+(y:Int)=(q:Int):=by omega);clear hcell hx hy hq cN lC;go_wp2_with (at_builtin;go_loud (refine ni rfl _ _ rfl w.heap.size u5 out rfl hA wr.heap.size lo rfl (kC wr _) (by omega) (by simp<;>omega) ?_;intro v4 w4 aB hgr));go_roundw
    case rel=>exact ⟨i+1,nM,_,by omega,by simp,rfl,Da,SU,Iy.out,aB,HST,hA.grown (hf.trans fA) hgr (Nat.le_refl _)⟩
    case measure=>(simp [intOf]<;>omega)
   ·(have k2:¬ (i:Int)<b.length:=by omega);(have nw:y=0:=by rw [hy];exact getD_none h2);(have s1:(c:Int)+(x:Int)=(q:Int):=by omega);clear hx hy hq cN lC nw;go_wp2_with (at_builtin;go_loud (refine ni rfl _ _ rfl w.heap.size u5 out rfl hA wr.heap.size lo rfl (kC wr _) (by omega) (by simp<;>omega) ?_;intro v4 w4 aB hgr));go_roundw
    case rel=>exact ⟨i+1,nM,_,by omega,by simp,rfl,Da,SU,Iy.out,aB,HST,hA.grown (hf.trans fA) hgr (Nat.le_refl _)⟩
    case measure=>(simp [intOf]<;>omega)
  ·have k1:¬ (i:Int)<a.length:=by omega
   have rC:x=0:=by rw [hx];exact getD_none h1
   by_cases h2:i<b.length
   ·(have k2:(i:Int)<b.length:=by omega);obtain ⟨g2,o2,rfl,AG,hcell⟩:=HB.out.at_ hf (by omega);(have d1:wr.cell? ⟨g2,o2+i,none⟩=some (dV .u32 y):=by rw [hy];exact hcell i h2);(have s1:(c:Int)+(y:Int)=(q:Int):=by omega);clear hcell hx hy hq cN lC rC;go_wp2_with (at_builtin;go_loud (refine ni rfl _ _ rfl w.heap.size u5 out rfl hA wr.heap.size lo rfl (kC wr _) (by omega) (by simp<;>omega) ?_;intro v4 w4 aB hgr));go_roundw
    case rel=>exact ⟨i+1,nM,_,by omega,by simp,rfl,Da,SU,Iy.out,aB,HST,hA.grown (hf.trans fA) hgr (Nat.le_refl _)⟩
    case measure=>(simp [intOf]<;>omega)
   ·(have k2:¬ (i:Int)<b.length:=by omega);have pJ:Hid (ae (out++[c])=ae a+ae b):=hd' (by
     have h9:=HV.out;rw [List.take_of_length_le (by omega),List.take_of_length_le (by omega)] at h9;rw [i6,HL.out,h9])
    have Ke:bl (out++[c]):=bX.snoc (by omega);have fC:Fr NoB wr (wr.alloc (.cells #[.int .u32 (c:Int)] 155)):=(Fr.refl _ _).alloc _;have hC:=hu.fr fC;have SV:Hid (∀ v' w',UR w.heap.size w' v' (out++[c])->Calls Tryz.prog 169 #[v'] w' fun e w''=>∃ v'',e=.returned v''/\dU .u32 w' v'' (lq (out++[c]))/\w''=w'):=hd' (fun v' w' h=>ft _ _ _ (h.num Ke (by rw [List.length_append,HL.out];simp;omega)));clear hx hy hq cN lC rC HST e1 e2 Iy SU fA hA HX HY;go_wp2_with (first|(at_builtin;go_loud (refine ni rfl _ _ rfl w.heap.size u5 out rfl hC wr.heap.size c rfl (kC wr _) (by omega) (by simp<;>omega) ?_;intro v4 w4 aB hgr))|(go_at_call 169;((with_reducible refine (SV.out _ _ aB).mono ?_);rintro e w5 ⟨v5,rfl,h5,rfl⟩)));go_ret;exact ⟨_,_,rfl,h5,ik _,by rw [dY];exact pJ.out,hC.grown (hf.trans fC) hgr (Nat.le_refl _)⟩
theorem E6 (a b:List Nat) (va vb:Value) (w:World) (ha:dU .u32 w va a) (hb:dU .u32 w vb b) (DY:a.length<=1000000) (EZ:b.length<=1000000) (hle:ae b<=ae a) :
  Calls Tryz.prog 204 #[va,vb] w (yH w (ae a - ae b)):=by
 obtain ⟨aa,ca,rfl⟩:=ha.sl;obtain ⟨ab,cb,rfl⟩:=hb.sl;have HA:=hd' ha;have HB:=hd' hb;have HLE:=hd' hle;clear ha hb hle;go_enter Tryz.func204,Tryz.ntmps204;go_upto_region 2 with fail;have I1:=UR.new w;have f0:Fr NoB w (w.alloc (.cells #[] 155)):=(Fr.refl _ _).alloc _;generalize w.alloc (.cells #[] 155)=W at *;go_wp2_with fail;go_loopw [5,6,7] (fun v5 v6 v7 wr=>∃ (i c:Nat) (out:List Nat),i<=a.length/\v7=.int .i64 i/\v6=dV .u32 c/\c<=1/\Hid (out.length=i)/\bl out/\UR w.heap.size wr v5 out/\Hid (ae out+ae (b.take i)=ae (a.take i)+c*65536 ^ i)/\Fr NoB w wr) (fun _ _ v7 _=>a.length - (intOf v7).toNat)
 case atStart=>exact ⟨0,0,[],Nat.zero_le _,rfl,rfl,Nat.zero_le _,hd' rfl,(fun x hx=>by simp at hx),I1,hd' rfl,f0⟩
 case round=>
  clear I1 f0;obtain ⟨i,c,out,hi,rfl,rfl,hc,HL,bX,hu,HV,hf⟩:=hrel;have k0:(0:Int)<=i:=by omega
  have E8:=hf.size;have Br:out.length<=1000000:=by rw [HL.out];omega
  by_cases h1:i<a.length
  ·have k1:(i:Int)<a.length:=by omega
   obtain ⟨x,hx⟩:∃ x,x=a.getD i 0:=⟨_,rfl⟩;obtain ⟨y,hy⟩:∃ y,y=b.getD i 0:=⟨_,rfl⟩;have ja:x<65536:=by rw [hx];exact HA.out.1.at i
   have pj:y<65536:=by rw [hy];exact HB.out.1.at i
   obtain ⟨p,hp⟩:∃ p,p=65536+x - c:=⟨_,rfl⟩;obtain ⟨q,hq⟩:∃ q,q=p - y:=⟨_,rfl⟩;obtain ⟨lo,cN⟩:∃ r,r=q % 65536:=⟨_,rfl⟩;obtain ⟨nM,lC⟩:∃ r,r=q / 65536:=⟨_,rfl⟩;obtain ⟨bo,zF⟩:∃ r,r=1 - nM:=⟨_,rfl⟩;have HST:Hid (ae (out++[lo])+ae (b.take (i+1))=ae (a.take (i+1))+bo*65536 ^ (i+1)):=hd' (by rw [cN,zF,lC];exact Db HL.out HV.out (by rw [<- hx,<- hy];omega) (by omega));have e1:bits .and .u32 (q:Int) 65535=(lo:Int):=by rw [EC q (by omega),cN]
   have e2:(q:Int) / 65536=(nM:Int):=by omega
   have e3:(1:Int) - (nM:Int)=(bo:Int):=by omega
   have s0:(65536:Int)+(x:Int) - (c:Int)=(p:Int):=by omega
   have tv:lo<65536:=by omega
   have hbo:bo<=1:=by omega
   have Iy:Hid (bl (out++[lo])):=hd' (bX.snoc tv);have SU:Hid ((out++[lo]).length=i+1):=hd' (by rw [List.length_append,HL.out];rfl);have fA:Fr NoB wr (wr.alloc (.cells #[.int .u32 (lo:Int)] 155)):=(Fr.refl _ _).alloc _;have hA:=hu.fr fA;obtain ⟨g,o,rfl,hlc,hcell⟩:=HA.out.at_ hf (by omega);have d0:wr.cell? ⟨g,o+i,none⟩=some (dV .u32 x):=by rw [hx];exact hcell i h1
   have hpl:p<=131071:=by omega
   clear hcell;by_cases h2:i<b.length
   ·(have k2:(i:Int)<b.length:=by omega);obtain ⟨g2,o2,rfl,AG,hcell⟩:=HB.out.at_ hf (by omega);(have d1:wr.cell? ⟨g2,o2+i,none⟩=some (dV .u32 y):=by rw [hy];exact hcell i h2);(have s1:(p:Int) - (y:Int)=(q:Int):=by omega);(have tZ:q<=131071:=by omega);clear hcell hx hy hp hq cN lC zF;go_wp2_with (at_builtin;go_loud (refine ni rfl _ _ rfl w.heap.size u5 out rfl hA wr.heap.size lo rfl (kC wr _) (by omega) (by simp<;>omega) ?_;intro v4 w4 aB hgr));go_roundw
    case rel=>exact ⟨i+1,bo,_,by omega,by simp,rfl,hbo,SU,Iy.out,aB,HST,hA.grown (hf.trans fA) hgr (Nat.le_refl _)⟩
    case measure=>(simp [intOf]<;>omega)
   ·(have k2:¬ (i:Int)<b.length:=by omega);(have nw:y=0:=by rw [hy];exact getD_none h2);obtain rfl:q=p:=by omega
    clear hx hy hp hq cN lC zF nw;go_wp2_with (at_builtin;go_loud (refine ni rfl _ _ rfl w.heap.size u5 out rfl hA wr.heap.size lo rfl (kC wr _) (by omega) (by simp<;>omega) ?_;intro v4 w4 aB hgr));go_roundw
    case rel=>exact ⟨i+1,bo,_,by omega,by simp,rfl,hbo,SU,Iy.out,aB,HST,hA.grown (hf.trans fA) hgr (Nat.le_refl _)⟩
    case measure=>(simp [intOf]<;>omega)
  ·obtain rfl:i=a.length:=by omega
   have pJ:Hid (ae out=ae a - ae b):=hd' (He HL.out bX HA.out.1 HLE.out hc HV.out);have SV:=hd' (ft out u5 wr (hu.num bX (by omega)));have WW:=hd' Br;clear Br;go_wp2_with (go_at_call 169;((with_reducible refine SV.out.mono ?_);rintro e w5 ⟨v5,rfl,h5,rfl⟩));go_ret;exact ⟨_,_,rfl,h5,ik _,by rw [dY];exact pJ.out,hf⟩
theorem getD_set_ne {l:List Nat} {i j x:Nat} (h:i≠j):(l.set i x).getD j 0=l.getD j 0:=by
 rw [List.getD_eq_getElem?_getD,List.getD_eq_getElem?_getD,List.getElem?_set_ne h]
theorem oU {x y:Nat} (hx:x<65536) (hy:y<65536):x*y<=4294836225:=by
 have:=Nat.mul_le_mul (show x<=65535 by omega) (show y<=65535 by omega);omega
theorem E5 (a b:List Nat) (va vb:Value) (w:World) (ha:dU .u32 w va a) (hb:dU .u32 w vb b) (DY:a.length<=1000000) (EZ:b.length<=1000000) :
  Calls Tryz.prog 205 #[va,vb] w (yH w (ae a*ae b)):=by
 obtain ⟨aa,ca,rfl⟩:=ha.sl;obtain ⟨ab,cb,rfl⟩:=hb.sl;have HA:=hd' ha;have HB:=hd' hb;obtain ⟨n,hn⟩:∃ n,n=a.length+b.length:=⟨_,rfl⟩;have mV:=run_make_row' (P:=Tryz.prog) 118 155 (.int .u32 0) 4 Tryz.underlying118 tr rfl .i64 .i64 n (by omega) (by omega);rw [oT] at mV;have s0:(a.length:Int)+(b.length:Int)=(n:Int):=by omega
 have HN:=hd' hn;have OJ:n<=2000000:=by omega
 clear ha hb hn;go_enter Tryz.func205,Tryz.ntmps205;go_upto_region 2 with fail;have f0:Fr NoB w (w.alloc (.cells (Array.replicate n (Value.int .u32 0)) 155)):=(Fr.refl _ _).alloc _;have b0:=Blk.new w 155 (Array.replicate n (Value.int .u32 0));generalize w.alloc (.cells (Array.replicate n (Value.int .u32 0)) 155)=W at *;rw [mI] at b0;clear mV s0;go_wp2_with fail;go_loopw [6] (fun v6 wr=>∃ (i:Nat) (l:List Nat),i<=a.length/\v6=.int .i64 i/\bl l/\Hid (l.length=n)/\Blk wr w.heap.size 155 (l.map (dV .u32)).toArray/\Hid (ae l=ae (a.take i)*ae b)/\Hid (∀ j,i+b.length<=j->l.getD j 0=0)/\Fr NoB w wr) (fun v6 _=>a.length - (intOf v6).toNat)
 case atStart=>exact ⟨0,List.replicate n 0,Nat.zero_le _,rfl,bl.ED n,hd' (by simp),b0,hd' (by rw [iA];simp [ae]),hd' (fun j _=>by
  rw [List.getD_eq_getElem?_getD,List.getElem?_replicate];split<;>rfl),f0⟩
 case round=>
  clear b0 f0;obtain ⟨i,l,hi,rfl,bX,HL,df,HV,HZ,hf⟩:=hrel;have k0:(0:Int)<=i:=by omega
  by_cases h1:i<a.length
  ·have k1:(i:Int)<a.length:=by omega
   obtain ⟨x,hx⟩:∃ x,x=a.getD i 0:=⟨_,rfl⟩;have ja:x<65536:=by rw [hx];exact HA.out.1.at i
   have HX:=hd' hx;clear hx;go_upto_region 6 with fail;go_wp2_with fail;go_loopw [7,8] (fun v7 v8 w2=>∃ (k c:Nat) (l2:List Nat),k<=b.length/\v8=.int .i64 k/\v7=dV .u64 c/\c<65536/\bl l2/\Hid (l2.length=n)/\Blk w2 w.heap.size 155 (l2.map (dV .u32)).toArray/\Hid (ae l2+c*65536 ^ (i+k)=ae (a.take i)*ae b+x*65536 ^ i*ae (b.take k))/\Hid (∀ j,i+b.length<=j->l2.getD j 0=0)/\Fr NoB w w2) (fun _ v8 _=>b.length - (intOf v8).toNat)
   case atStart=>exact ⟨0,0,l,Nat.zero_le _,rfl,rfl,by omega,bX,HL,df,hd' (by rw [HV.out];simp [ae]),HZ,hf⟩
   case round=>
    clear bX HL df HV HZ hf;obtain ⟨k,c,l2,hk,rfl,rfl,hc,bX,HL,df,HV,HZ,hf⟩:=hrel;(have k2:(0:Int)<=k:=by omega);by_cases h2:k<b.length
    ·(have k3:(k:Int)<b.length:=by omega);obtain ⟨y,hy⟩:∃ y,y=b.getD k 0:=⟨_,rfl⟩;(have pj:y<65536:=by rw [hy];exact HB.out.1.at k);obtain ⟨p,hp⟩:∃ p,p=i+k:=⟨_,rfl⟩;(have uf:p<l2.length:=by rw [HL.out,HN.out];omega);(have Oh:p<n:=by rw [<- HL.out];exact uf);obtain ⟨z,hz⟩:∃ z,z=l2.getD p 0:=⟨_,rfl⟩;(have hzl:z<65536:=by rw [hz];exact bX.at p);obtain ⟨m,hm⟩:∃ m,m=x*y:=⟨_,rfl⟩;(have uy:m<=4294836225:=by rw [hm];exact oU ja pj);obtain ⟨q,hq⟩:∃ q,q=c+(z+m):=⟨_,rfl⟩;obtain ⟨lo,cN⟩:∃ r,r=q % 65536:=⟨_,rfl⟩;obtain ⟨nM,lC⟩:∃ r,r=q / 65536:=⟨_,rfl⟩;have HST:Hid (ae (l2.set p lo)+nM*65536 ^ (i+(k+1))=ae (a.take i)*ae b+x*65536 ^ i*ae (b.take (k+1))):=hd' (by
      rw [cN,lC,hp];exact tz (by rw [<- hp];exact uf) HV.out (by rw [hq,hz,hm,hy,hp]))
     (have e0:(x:Int)*(y:Int)=(m:Int):=by rw [hm];simp);(have e1:bits .and .u64 (q:Int) 65535=(lo:Int):=by rw [qZ q (by omega),cN]);(have e2:(q:Int) / 65536=(nM:Int):=by omega);(have s1:(c:Int)+((z:Int)+(m:Int))=(q:Int):=by omega);(have s2:(i:Int)+(k:Int)=(p:Int):=by omega);(have k4:(0:Int)<=p:=by omega);(have k5:(p:Int)<n:=by omega);(have tv:lo<65536:=by omega);(have Da:nM<65536:=by omega);(have tZ:q<=4294967295:=by omega);obtain ⟨g,o,rfl,hlc,hcell⟩:=HA.out.at_ hf (by omega);(have d0:wr.cell? ⟨g,o+i,none⟩=some (dV .u32 x):=by rw [HX.out];exact hcell i h1);clear hcell;obtain ⟨g2,o2,rfl,AG,hcell⟩:=HB.out.at_ hf (by omega);(have d1:wr.cell? ⟨g2,o2+k,none⟩=some (dV .u32 y):=by rw [hy];exact hcell k h2);clear hcell;(have d2:wr.cell? ⟨w.heap.size,p,none⟩=some (dV .u32 z):=by rw [hz];exact iI df uf);have dz:=df.frozen p;have lF:=hd' (fun t:Nat=>sL (df.drewN t) p lo);have yu:=hd' (bX.set p lo tv);have qA:=hd' (fun t:Nat=>(hf.drewN t).setCell_new (p:=⟨w.heap.size,p,none⟩) (Nat.le_refl _) (dV .u32 lo));have jt:Hid ((l2.set p lo).length=n):=hd' (by rw [List.length_set];exact HL.out);have SY:Hid (∀ j,i+b.length<=j->(l2.set p lo).getD j 0=0):=hd' (fun j hj=>by rw [getD_set_ne (by omega)];exact HZ.out j hj);clear hy hp hz hm hq cN lC bX HL df HV HZ hf uf;go_wp2_with fail;go_quiet (fail);go_wp2_with fail;go_roundw
     case rel=>exact ⟨k+1,nM,_,by omega,by simp,rfl,Da,yu.out,jt,lF.out _,HST,SY,qA.out _⟩
     case measure=>(simp [intOf]<;>omega)
    ·obtain rfl:k=b.length:=by omega
     obtain ⟨p,hp⟩:∃ p,p=i+b.length:=⟨_,rfl⟩;(have uf:p<l2.length:=by rw [HL.out,HN.out];omega);(have Oh:p<n:=by rw [<- HL.out];exact uf);have HST:Hid (ae (l2.set p c)=ae (a.take (i+1))*ae b):=hd' (by
      rw [hp];exact wg (by rw [<- hp];exact uf) (HZ.out _ (Nat.le_refl _)) (by rw [<- HX.out];exact HV.out))
     (have s2:(i:Int)+(b.length:Int)=(p:Int):=by omega);(have k4:(0:Int)<=p:=by omega);(have k5:(p:Int)<n:=by omega);have d2:=iI df uf;have dz:=df.frozen p;have lF:=hd' (sL df p c);have yu:=hd' (bX.set p c hc);have qA:=hd' (hf.setCell_new (p:=⟨w.heap.size,p,none⟩) (Nat.le_refl _) (dV .u32 c));have jt:Hid ((l2.set p c).length=n):=hd' (by rw [List.length_set];exact HL.out);have SY:Hid (∀ j,i+1+b.length<=j->(l2.set p c).getD j 0=0):=hd' (fun j hj=>by rw [getD_set_ne (by omega)];exact HZ.out j (by omega));clear hp bX HL df HV HZ hf uf;go_wp2_with fail;go_roundw
     case rel=>exact ⟨i+1,_,by omega,by simp,yu.out,jt,lF.out,HST,SY,qA.out⟩
     case measure=>(simp [intOf]<;>omega)
  ·obtain rfl:i=a.length:=by omega
   have pJ:Hid (ae l=ae a*ae b):=hd' (by have:=HV.out;rwa [List.take_length] at this);have iB:l.length=n:=HL.out;have SV:=hd' (ft l (.slice (some ⟨w.heap.size,0,none⟩) n n) wr (by
    have:=dU.iZ (c:=n) df bX (by omega) (by omega);rwa [iB] at this))
   clear iB df;go_wp2_with (go_at_call 169;((with_reducible refine SV.out.mono ?_);rintro e w5 ⟨v5,rfl,h5,rfl⟩));go_ret;exact ⟨_,_,rfl,h5,ik _,by rw [dY];exact pJ.out,hf⟩
theorem Lq {a b:List Nat} (hl:a.length=b.length) (h:∀ j,j<a.length->a.getD j 0=b.getD j 0):a=b:=by
 apply List.ext_getElem hl;intro j h1 h2;have:=h j h1;rwa [List.getD_eq_getElem?_getD,List.getD_eq_getElem?_getD,List.getElem?_eq_getElem h1,List.getElem?_eq_getElem h2] at this
theorem fQ {l:List Nat} {i x:Nat} (h:i<l.length):(l.set i x).getD i 0=x:=by
 rw [List.getD_eq_getElem?_getD,List.getElem?_set_self h];rfl
theorem Hg {r r2:List Nat} {n x:Nat} (hr:r.length=n+1) (h2:r2.length=n+1) (h0:r2.getD 0 0=x) (hs:∀ j,j<n->r2.getD (j+1) 0=r.getD j 0) (hn:r.getD n 0=0):ae r2=x+65536*ae r:=by
 have e:r2=x::r.take n:=by
  refine Lq (by simp;omega) (fun j hj => ?_);cases j with
  | zero=>rw [h0];rfl
  | succ j=>
   rw [hs j (by omega),List.getD_cons_succ,List.getD_eq_getElem?_getD,List.getD_eq_getElem?_getD,List.getElem?_take_of_lt (by omega)]
 have e2:=fH r n (by omega);rw [hn,Nat.zero_mul,<- hr,List.take_length] at e2;rw [e,ae];omega
theorem Lr {r:List Nat} {n V:Nat} (h:ae r<V) (hV:V<65536 ^ n):r.getD n 0=0:=by
 have h1:=oV r n;refine Decidable.byContradiction fun hc => ?_;have h2:1*65536 ^ n<=r.getD n 0*65536 ^ n:=Nat.mul_le_mul_right _ (by omega);omega
theorem take_zero {r:List Nat} {n:Nat} (hr:r.length=n+1) (h:r.getD n 0=0):ae (r.take n)=ae r:=by
 have e2:=fH r n (by omega);rw [h,Nat.zero_mul,<- hr,List.take_length] at e2;omega
theorem wh {a b:List Nat} {k:Nat} (h:a.drop k=b.drop k):a.getD k 0=b.getD k 0:=by
 have h2:=congrArg (fun l:List Nat=>l[0]?) h;simp only [List.getElem?_drop,Nat.add_zero] at h2;rw [List.getD_eq_getElem?_getD,List.getD_eq_getElem?_getD,h2]
def EF (w:World) (g:Nat):Nat:=match w.heap[g]? with
 | some (.cells cs _ _)=>ae (cs.toList.map (fun v=>(intOf v).toNat))
 | _=>0
theorem pT {w:World} {g:Nat} {t:TypeId} {l:List Nat} (h:Blk w g t (l.map (dV .u32)).toArray):EF w g=ae l:=by
 have h2:w.heap[g]?=some (.cells (l.map (dV .u32)).toArray t (0,0)):=h;unfold EF;rw [h2];simp only [List.map_map]
 congr 1
 conv=>rhs;rw [<- List.map_id l]
 refine List.map_congr_left (fun x _ => ?_);simp [intOf]
theorem BG (a m:List Nat) (va vm:Value) (w:World) (ha:dU .u32 w va a) (hm:dU .u32 w vm m) (DY:a.length<=1000000) (dd:m.length<=1000) (hV:0<ae m) :
  Calls Tryz.prog 202 #[va,vm] w (yH w (ae a % ae m)):=by
 obtain ⟨aa,ca,rfl⟩:=ha.sl;obtain ⟨am,cm,rfl⟩:=hm.sl;have HA:=hd' ha;have HM:=hd' hm;obtain ⟨n,hn⟩:∃ n,n=m.length:=⟨_,rfl⟩;obtain ⟨n1,Bq⟩:∃ n1,n1=n+1:=⟨_,rfl⟩;have mV:=run_make_row' (P:=Tryz.prog) 118 155 (.int .u32 0) 4 Tryz.underlying118 tr rfl .i64 .i64 n1 (by omega) (by omega);rw [oT] at mV;have s0:(n:Int)+1=(n1:Int):=by omega
 have HVn:Hid (ae m<65536 ^ n):=hd' (by rw [hn];exact cZ hm.1);have xg:=hd' Bq;have HN:=hd' hn;have OJ:n<=1000:=by omega
 obtain ⟨V,hVV⟩:∃ V,V=ae m:=⟨_,rfl⟩;rw [<- hVV] at hV HVn ⊢;have HV:=hd' hVV;rw [<- hn];clear ha hm hn Bq hVV;go_enter Tryz.func202,Tryz.ntmps202;go_upto_region 3 with fail;have f0:Fr NoB w (w.alloc (.cells (Array.replicate n1 (Value.int .u32 0)) 155)):=(Fr.refl _ _).alloc _;have b0:=Blk.new w 155 (Array.replicate n1 (Value.int .u32 0));generalize w.alloc (.cells (Array.replicate n1 (Value.int .u32 0)) 155)=W at *;rw [mI] at b0;clear mV s0;go_wp2_with fail;go_loopw [7] (fun v7 wr=>∃ (M:Nat) (z:Int) (r:List Nat),M<=a.length/\v7=.int .i64 z/\Hid (z=(M:Int) - 1)/\bl r/\Hid (r.length=n+1)/\Blk wr w.heap.size 155 (r.map (dV .u32)).toArray/\Hid (ae r=ae (a.drop M) % V)/\Fr NoB w wr) (fun v7 _=>(intOf v7+1).toNat)
 case atStart=>exact ⟨a.length,_,List.replicate n1 0,Nat.le_refl _,rfl,hd' rfl,bl.ED n1,hd' (by simp [xg.out]),b0,hd' (by rw [iA,List.drop_length,ae,Nat.zero_mod]),f0⟩
 case round=>
  clear b0 f0;obtain ⟨M,z,r,hM,rfl,HZ,bX,HL,df,HR,hf⟩:=hrel;have hz:=HZ.out;by_cases h0:M=0
  ·subst h0;have k1:z<0:=by omega
   have iB:r.length=n1:=by rw [HL.out,xg.out]
   have SV:=hd' (ft r (.slice (some ⟨w.heap.size,0,none⟩) n1 n1) wr (by
    have:=dU.iZ (c:=n1) df bX (by have:=xg.out;omega) (by omega);rwa [iB] at this))
   have pJ:Hid (ae r=ae a % V):=hd' (by have:=HR.out;rwa [List.drop_zero] at this);clear iB hz df;go_wp2_with (go_at_call 169;((with_reducible refine SV.out.mono ?_);rintro e w5 ⟨v5,rfl,h5,rfl⟩));go_ret;exact ⟨_,_,rfl,h5,ik _,by rw [dY];exact pJ.out,hf⟩
  ·obtain ⟨j,hj⟩:∃ j,j=M - 1:=⟨_,rfl⟩;obtain rfl:z=(j:Int):=by omega
   have QM:Hid (M=j+1):=hd' (by omega);have qq:j<a.length:=by omega
   have Yy:Hid (ae r<V):=hd' (by rw [HR.out];exact Nat.mod_lt _ hV);have VM:Hid (r.getD n 0=0):=hd' (Lr Yy.out HVn.out);obtain ⟨x,hx⟩:∃ x,x=a.getD j 0:=⟨_,rfl⟩;have HX:=hd' hx;have ja:x<65536:=by rw [hx];exact HA.out.1.at j
   have HRV:Hid ((x+65536*ae r) % V=ae (a.drop j) % V):=hd' (by
    have e:ae (a.drop j)=x+65536*ae (a.drop M):=by
     rw [QM.out,List.drop_eq_getElem_cons qq,ae,hx,List.getD_eq_getElem?_getD,List.getElem?_eq_getElem qq];rfl
    rw [e,HR.out,Nat.add_mod,Nat.mul_mod,Nat.mod_mod,<- Nat.mul_mod,<- Nat.add_mod])
   have ab6:=hd' bX;have k0:(0:Int)<=j:=by omega
   have k1:(j:Int)<a.length:=by omega
   clear hz hj HR hx h0;go_upto_region 6 with fail;go_wp2_with fail;go_loopw [8] (fun v8 w2=>∃ (k:Nat) (r2:List Nat),k<=n/\v8=.int .i64 k/\bl r2/\Hid (r2.length=n+1)/\Blk w2 w.heap.size 155 (r2.map (dV .u32)).toArray/\Hid ((∀ i,i<=k->r2.getD i 0=r.getD i 0)/\∀ i,k<=i->i<n->r2.getD (i+1) 0=r.getD i 0)/\Fr NoB w w2) (fun v8 _=>(intOf v8).toNat)
   case atStart=>exact ⟨n,r,Nat.le_refl _,rfl,bX,HL,df,hd' ⟨fun i _=>rfl,fun i h1 h2=>by omega⟩,hf⟩
   case round=>
    clear bX df hf;obtain ⟨k,r2,hk,rfl,bX,jt,df,HS,hf⟩:=hrel;by_cases mc:k=0
    ·subst mc;obtain ⟨g,o,rfl,hlc,hcell⟩:=HA.out.at_ hf (by omega);(have d0:wr.cell? ⟨g,o+j,none⟩=some (dV .u32 x):=by rw [HX.out];exact hcell j qq);(have MK:0<r2.length:=by rw [jt.out];omega);have d1:=iI df MK;have dz:=df.frozen 0;(have k5:(0:Int)<n1:=by have:=xg.out;omega);obtain ⟨r3,oW⟩:∃ r3,r3=r2.set 0 x:=⟨_,rfl⟩;have HB3:Hid (Blk (wr.setCell ⟨w.heap.size,0,none⟩ (dV .u32 x)) w.heap.size 155 (r3.map (dV .u32)).toArray):=hd' (by rw [oW];exact sL df 0 x);have HI3:Hid (bl r3):=hd' (by rw [oW];exact bX.set 0 x ja);have Ee:Hid (r3.length=n+1):=hd' (by rw [oW,List.length_set];exact jt.out);have HV3:Hid (ae r3 % V=ae (a.drop j) % V):=hd' (by
      have Qo:=Hg (x:=x) (n:=n) (r:=r) (r2:=r3) HL.out Ee.out (by rw [oW];exact fQ MK) (fun i hi=>by rw [oW,getD_set_ne (by omega)];exact HS.out.2 i (Nat.zero_le _) hi) VM.out;rw [Qo];exact HRV.out)
     have HF3:=hd' (hf.setCell_new (p:=⟨w.heap.size,0,none⟩) (Nat.le_refl _) (dV .u32 x));clear hcell oW bX jt df HS hf MK HL ab6 Yy VM HRV HX ja;go_wp2_with fail;go_loopw [9] (fun v9 w3=>∃ q:List Nat,bl q/\Hid (q.length=n+1)/\Blk w3 w.heap.size 155 (q.map (dV .u32)).toArray/\Hid (ae q % V=ae (a.drop j) % V)/\Fr NoB w w3) (fun _ w3=>EF w3 w.heap.size)
     case atStart=>exact ⟨r3,HI3.out,Ee,HB3.out,HV3,HF3.out⟩
     case round=>
      clear d0 d1 dz HB3 HI3 Ee HV3 HF3;obtain ⟨q,bX,Hh,df,HQ,hf⟩:=hrel;obtain ⟨w3,hw3⟩:∃ x,x=wr:=⟨_,rfl⟩;subst hw3;(have I9:n<q.length:=by rw [Hh.out];omega);obtain ⟨y0,nw⟩:∃ y,y=q.getD n 0:=⟨_,rfl⟩;(have ajD:y0<65536:=by rw [nw];exact bX.at n);(have d0:w3.cell? ⟨w.heap.size,n,none⟩=some (dV .u32 y0):=by rw [nw];exact iI df I9);(have k2:(0:Int)<=n:=by omega);(have k3:(n:Int)<n1:=by have:=xg.out;omega);(have k4:(n:Int)<=n1:=by omega);have Ls:Hid (EF w3 w.heap.size=ae q):=hd' (pT df);have Lt:=hd' bX;by_cases hyz:y0=0
      ·have HQ0:Hid (ae (q.take n)=ae q):=hd' (take_zero Hh.out (by rw [<- nw];exact hyz));have HC:Hid (Calls Tryz.prog 122 #[.slice (some ⟨w.heap.size,0,none⟩) n n1,.slice am n cm] w3 fun e w'=>e=.returned (.int .i64 (fp (ae q) V))/\Fr NoB w3 w'):=hd' (by
        have h1:dU .u32 w3 (.slice (some ⟨w.heap.size,0,none⟩) q.length n1) q:=dU.iZ df bX (by rw [Hh.out];omega) (by rw [Hh.out,xg.out];exact Nat.le_refl _);have h2:=dU.take (m:=n) h1 (by omega);have h3:=HM.out.fr hf;rw [<- HN.out] at h3;have:=uJ _ _ _ _ w3 h2 h3;rw [HQ0.out,<- HV.out] at this;exact this)
       obtain ⟨zc,hzc⟩:∃ z,z=fp (ae q) V:=⟨_,rfl⟩;rw [<- hzc] at HC;have Oo:=wY (ae q) V;rw [<- hzc] at Oo;subst hyz;clear nw hzc I9;by_cases hlt:V<=ae q
       ·have kz:(0:Int)<=zc:=Oo.2 hlt;obtain ⟨t,ht⟩:∃ t,t=1:=⟨_,rfl⟩;(have Aw:1<=t:=by omega);(have Bm:t<65536:=by omega);have Kl:Hid (t*V<=ae q):=hd' (by rw [ht,Nat.one_mul];exact hlt);have Ni:=hd' ht;clear Oo hlt ht;go_upto_region 12 with (go_at_call 122;((with_reducible refine HC.out.mono ?_);rintro e w1 ⟨rfl,f1⟩));have lz:=f1.blk df (fun e=>e);have qM:=hf.trans f1;have d9:w1.cell? ⟨w.heap.size,n,none⟩=some (dV .u32 0):=(f1.cell (p:=⟨w.heap.size,n,none⟩) df.lt (fun e=>e)).trans d0;clear df hf d0 HC;go_upto_region 16 with fail;go_wp2_with fail;go_loopw [10,11] (fun v10 v11 w4=>∃ (k B:Nat) (q2:List Nat),k<=n+1/\v11=.int .i64 k/\v10=dV .u64 B/\B<=16777216/\bl q2/\Hid (q2.length=n+1)/\Blk w4 w.heap.size 155 (q2.map (dV .u32)).toArray/\Hid (ae (q2.take k)+t*ae (m.take k)=ae (q.take k)+B*65536 ^ k/\q2.drop k=q.drop k)/\Fr NoB w w4) (fun _ v11 _=>n1+1 - (intOf v11).toNat)
        case atStart=>exact ⟨0,0,q,Nat.zero_le _,rfl,rfl,Nat.zero_le _,Lt.out,Hh,lz,hd' (by simp [ae]),qM⟩
        case round=>
         clear lz qM d9;obtain ⟨k,B,q2,hk,rfl,rfl,hB,bX,jt,df,HS,hf⟩:=hrel;by_cases MI:k=n+1
         ·have SZ:Hid (ae q2=ae q - t*V):=hd' (by
           have h9:=HS.out.1;rw [MI] at h9;rw [HV.out];exact AH Hh.out jt.out HN.out.symm bX (by rw [<- HV.out];exact Kl.out) Lt.out h9)
          (have k7:¬ (k:Int)<=n:=by omega);have HLT:Hid (ae q2<ae q):=hd' (by
           have h8:=Kl.out;have h7:1*1<=t*V:=Nat.mul_le_mul Aw hV;rw [SZ.out];omega)
          clear MI;go_wp2_with fail;go_roundw
          case rel=>first|exact ⟨q2,bX,jt,df,hd' (by rw [SZ.out,oX Kl.out];exact HQ.out),hf⟩|exact ⟨q2,bX,jt,df,hd' (by rw [SZ.out,oX Kl.out];exact HQ.out)⟩
          case measure=>(rw [pT df,Ls.out];exact HLT.out)
         ·(have k7:(k:Int)<=n:=by omega);(have jU:k<q2.length:=by rw [jt.out];omega);(have S2:k<q.length:=by rw [Hh.out];omega);obtain ⟨y,hy⟩:∃ y,y=m.getD k 0:=⟨_,rfl⟩;(have pj:y<65536:=by rw [hy];exact HM.out.1.at k);obtain ⟨u,hu⟩:∃ u,u=q2.getD k 0:=⟨_,rfl⟩;(have hul:u<65536:=by rw [hu];exact bX.at k);have HUQ:Hid (q.getD k 0=u):=hd' (by rw [hu];exact (wh HS.out.2).symm);obtain ⟨pm,Bt⟩:∃ x,x=t*y:=⟨_,rfl⟩;(have hpl:pm<=4294836225:=by rw [Bt];exact oU Bm pj);obtain ⟨tk,lK⟩:∃ x,x=B+pm:=⟨_,rfl⟩;obtain ⟨X,hX⟩:∃ x,x=u+1099511627776 - tk:=⟨_,rfl⟩;obtain ⟨lo,cN⟩:∃ r,r=X % 65536:=⟨_,rfl⟩;obtain ⟨nM,lC⟩:∃ r,r=X / 65536:=⟨_,rfl⟩;obtain ⟨B2,MT⟩:∃ r,r=16777216 - nM:=⟨_,rfl⟩;have HST:Hid (ae ((q2.set k lo).take (k+1))+t*ae (m.take (k+1))=ae (q.take (k+1))+B2*65536 ^ (k+1)/\(q2.set k lo).drop (k+1)=q.drop (k+1)):=hd' (by
           rw [cN,MT,lC];exact left_step S2 HS.out.1 HS.out.2 (by rw [jt.out,Hh.out]) (by rw [HUQ.out,<- hy,<- Bt];omega) (by omega))
          (have hXl:X<=1099511693311:=by omega);(have hXg:1099511627776<=X+tk:=by omega);(have acb:tk<=4311613441:=by omega);(have e1:bits .and .u64 (X:Int) 65535=(lo:Int):=by rw [qZ X (by omega),cN]);(have e2:(X:Int) / 65536=(nM:Int):=by omega);(have e3:(16777216:Int) - (nM:Int)=(B2:Int):=by omega);(have s1:(u:Int)+1099511627776 - (tk:Int)=(X:Int):=by omega);(have tv:lo<65536:=by omega);(have WX:B2<=16777216:=by omega);(have hhl:nM<=16777216:=by omega);(have k8:(0:Int)<=k:=by omega);(have k9:(k:Int)<n1:=by have:=xg.out;omega);(have d2:wr.cell? ⟨w.heap.size,k,none⟩=some (dV .u32 u):=by rw [hu];exact iI df jU);have dz:=df.frozen k;have lF:=hd' (sL df k lo);have yu:=hd' (bX.set k lo tv);have qA:=hd' (hf.setCell_new (p:=⟨w.heap.size,k,none⟩) (Nat.le_refl _) (dV .u32 lo));have Ee:Hid ((q2.set k lo).length=n+1):=hd' (by rw [List.length_set];exact jt.out);by_cases DA:k<n
          ·(have k6:(k:Int)<n:=by omega);(have hpy:pm=y:=by rw [Bt,Ni.out,Nat.one_mul]);(have e4:(B:Int)+(y:Int)=(tk:Int):=by omega);obtain ⟨g2,o2,rfl,AG,hcell⟩:=HM.out.at_ hf (by have:=HN.out;omega);(have d1:wr.cell? ⟨g2,o2+k,none⟩=some (dV .u32 y):=by rw [hy];exact hcell k (by have:=HN.out;omega));clear hcell hpy hy hu Bt lK hX cN lC MT bX jt df HS hf jU S2;go_wp2_with fail;go_roundw
           case rel=>exact ⟨k+1,B2,_,by omega,by simp,rfl,WX,yu.out,Ee,lF.out,HST,qA.out⟩
           case measure=>(have h1:=xg.out;simp [intOf];omega)
          ·(have k6:¬ (k:Int)<n:=by omega);(have nw:y=0:=by rw [hy];exact getD_none (by have:=HN.out;omega));(have S4:pm=0:=by rw [Bt,nw,Nat.mul_zero]);obtain rfl:tk=B:=by omega
           clear hy hu Bt lK hX cN lC MT bX jt df HS hf jU S2 nw S4;go_wp2_with fail;go_roundw
           case rel=>exact ⟨k+1,B2,_,by omega,by simp,rfl,WX,yu.out,Ee,lF.out,HST,qA.out⟩
           case measure=>(have h1:=xg.out;simp [intOf];omega)
       ·have kz:¬ (0:Int)<=zc:=fun h=>hlt (Oo.1 h);have pJ:Hid (ae q=ae (a.drop j) % V):=hd' (by rw [<- HQ.out,Nat.mod_eq_of_lt (by omega)]);clear Oo hlt;go_wp2_with (go_at_call 122;((with_reducible refine HC.out.mono ?_);rintro e w1 ⟨rfl,f1⟩));go_roundw
        case rel=>exact ⟨j,_,q,by omega,rfl,hd' rfl,Lt.out,Hh,f1.blk df (fun e=>e),pJ,hf.trans f1⟩
        case measure=>(have:=QM.out;simp [intOf]<;>omega)
      ·(have hyp:0<y0:=by omega);(have k5:(0:Int)<(y0:Int):=by omega);(have k6:¬ (y0:Int)=0:=by omega);obtain ⟨t,ht⟩:∃ t,t=y0:=⟨_,rfl⟩;(have Aw:1<=t:=by omega);(have Bm:t<65536:=by omega);have Kl:Hid (t*V<=ae q):=hd' (by rw [ht,nw,HV.out];exact Hj HN.out.symm HM.out.1);subst ht;have lz:=df;have qM:=hf;have d9:=d0;clear df hf nw hyz I9;go_upto_region 16 with fail;go_wp2_with fail;go_loopw [10,11] (fun v10 v11 w4=>∃ (k B:Nat) (q2:List Nat),k<=n+1/\v11=.int .i64 k/\v10=dV .u64 B/\B<=16777216/\bl q2/\Hid (q2.length=n+1)/\Blk w4 w.heap.size 155 (q2.map (dV .u32)).toArray/\Hid (ae (q2.take k)+t*ae (m.take k)=ae (q.take k)+B*65536 ^ k/\q2.drop k=q.drop k)/\Fr NoB w w4) (fun _ v11 _=>n1+1 - (intOf v11).toNat)
       case atStart=>exact ⟨0,0,q,Nat.zero_le _,rfl,rfl,Nat.zero_le _,Lt.out,Hh,lz,hd' (by simp [ae]),qM⟩
       case round=>
        clear lz qM d9;obtain ⟨k,B,q2,hk,rfl,rfl,hB,bX,jt,df,HS,hf⟩:=hrel;by_cases MI:k=n+1
        ·have SZ:Hid (ae q2=ae q - t*V):=hd' (by
          have h9:=HS.out.1;rw [MI] at h9;rw [HV.out];exact AH Hh.out jt.out HN.out.symm bX (by rw [<- HV.out];exact Kl.out) Lt.out h9)
         (have k7:¬ (k:Int)<=n:=by omega);have HLT:Hid (ae q2<ae q):=hd' (by
          have h8:=Kl.out;have h7:1*1<=t*V:=Nat.mul_le_mul Aw hV;rw [SZ.out];omega)
         clear MI;go_wp2_with fail;go_roundw
         case rel=>first|exact ⟨q2,bX,jt,df,hd' (by rw [SZ.out,oX Kl.out];exact HQ.out),hf⟩|exact ⟨q2,bX,jt,df,hd' (by rw [SZ.out,oX Kl.out];exact HQ.out)⟩
         case measure=>(rw [pT df,Ls.out];exact HLT.out)
        ·(have k7:(k:Int)<=n:=by omega);(have jU:k<q2.length:=by rw [jt.out];omega);(have S2:k<q.length:=by rw [Hh.out];omega);obtain ⟨y,hy⟩:∃ y,y=m.getD k 0:=⟨_,rfl⟩;(have pj:y<65536:=by rw [hy];exact HM.out.1.at k);obtain ⟨u,hu⟩:∃ u,u=q2.getD k 0:=⟨_,rfl⟩;(have hul:u<65536:=by rw [hu];exact bX.at k);have HUQ:Hid (q.getD k 0=u):=hd' (by rw [hu];exact (wh HS.out.2).symm);obtain ⟨pm,Bt⟩:∃ x,x=t*y:=⟨_,rfl⟩;(have hpl:pm<=4294836225:=by rw [Bt];exact oU Bm pj);obtain ⟨tk,lK⟩:∃ x,x=B+pm:=⟨_,rfl⟩;obtain ⟨X,hX⟩:∃ x,x=u+1099511627776 - tk:=⟨_,rfl⟩;obtain ⟨lo,cN⟩:∃ r,r=X % 65536:=⟨_,rfl⟩;obtain ⟨nM,lC⟩:∃ r,r=X / 65536:=⟨_,rfl⟩;obtain ⟨B2,MT⟩:∃ r,r=16777216 - nM:=⟨_,rfl⟩;have HST:Hid (ae ((q2.set k lo).take (k+1))+t*ae (m.take (k+1))=ae (q.take (k+1))+B2*65536 ^ (k+1)/\(q2.set k lo).drop (k+1)=q.drop (k+1)):=hd' (by
          rw [cN,MT,lC];exact left_step S2 HS.out.1 HS.out.2 (by rw [jt.out,Hh.out]) (by rw [HUQ.out,<- hy,<- Bt];omega) (by omega))
         (have hXl:X<=1099511693311:=by omega);(have hXg:1099511627776<=X+tk:=by omega);(have acb:tk<=4311613441:=by omega);(have e1:bits .and .u64 (X:Int) 65535=(lo:Int):=by rw [qZ X (by omega),cN]);(have e2:(X:Int) / 65536=(nM:Int):=by omega);(have e3:(16777216:Int) - (nM:Int)=(B2:Int):=by omega);(have s1:(u:Int)+1099511627776 - (tk:Int)=(X:Int):=by omega);(have tv:lo<65536:=by omega);(have WX:B2<=16777216:=by omega);(have hhl:nM<=16777216:=by omega);(have k8:(0:Int)<=k:=by omega);(have k9:(k:Int)<n1:=by have:=xg.out;omega);(have d2:wr.cell? ⟨w.heap.size,k,none⟩=some (dV .u32 u):=by rw [hu];exact iI df jU);have dz:=df.frozen k;have lF:=hd' (sL df k lo);have yu:=hd' (bX.set k lo tv);have qA:=hd' (hf.setCell_new (p:=⟨w.heap.size,k,none⟩) (Nat.le_refl _) (dV .u32 lo));have Ee:Hid ((q2.set k lo).length=n+1):=hd' (by rw [List.length_set];exact jt.out);by_cases DA:k<n
         ·(have k6:(k:Int)<n:=by omega);(have e0:(t:Int)*(y:Int)=(pm:Int):=by rw [Bt];simp);(have e4:(B:Int)+(pm:Int)=(tk:Int):=by omega);obtain ⟨g2,o2,rfl,AG,hcell⟩:=HM.out.at_ hf (by have:=HN.out;omega);(have d1:wr.cell? ⟨g2,o2+k,none⟩=some (dV .u32 y):=by rw [hy];exact hcell k (by have:=HN.out;omega));clear hcell hy hu Bt lK hX cN lC MT bX jt df HS hf jU S2;go_wp2_with fail;go_roundw
          case rel=>exact ⟨k+1,B2,_,by omega,by simp,rfl,WX,yu.out,Ee,lF.out,HST,qA.out⟩
          case measure=>(have h1:=xg.out;simp [intOf];omega)
         ·(have k6:¬ (k:Int)<n:=by omega);(have nw:y=0:=by rw [hy];exact getD_none (by have:=HN.out;omega));(have S4:pm=0:=by rw [Bt,nw,Nat.mul_zero]);obtain rfl:tk=B:=by omega
          clear hy hu Bt lK hX cN lC MT bX jt df HS hf jU S2 nw S4;go_wp2_with fail;go_roundw
          case rel=>exact ⟨k+1,B2,_,by omega,by simp,rfl,WX,yu.out,Ee,lF.out,HST,qA.out⟩
          case measure=>(have h1:=xg.out;simp [intOf];omega)
    ·obtain ⟨p,hp⟩:∃ p,p=k - 1:=⟨_,rfl⟩;have HK:Hid (k=p+1):=hd' (by omega);(have s1:(k:Int) - 1=(p:Int):=by omega);(have k2:(0:Int)<k:=by omega);(have k3:(0:Int)<=p:=by omega);(have k4:(0:Int)<=k:=by omega);(have k5:(p:Int)<n1:=by have:=xg.out;omega);(have k6:(k:Int)<n1:=by have:=xg.out;omega);(have hpl:p<r2.length:=by rw [jt.out];omega);(have jU:k<r2.length:=by rw [jt.out];omega);have d0:=iI df hpl;have d1:=iI df jU;have dz:=df.frozen k;have pj:=bX.at p;have lF:=hd' (fun y:Nat=>sL df k y);have yu:=hd' (fun y hy=>bX.set k y hy);have qA:=hd' (fun y:Nat=>hf.setCell_new (p:=⟨w.heap.size,k,none⟩) (Nat.le_refl _) (dV .u32 y));have Ee:Hid (∀ y:Nat,(r2.set k y).length=n+1):=hd' (fun y=>by rw [List.length_set];exact jt.out);have kD:Hid ((∀ i,i<=p->(r2.set k (r2.getD p 0)).getD i 0=r.getD i 0)/\∀ i,p<=i->i<n->(r2.set k (r2.getD p 0)).getD (i+1) 0=r.getD i 0):=hd' ⟨fun i hi=>by
      rw [getD_set_ne (by have:=HK.out;omega)];exact HS.out.1 i (by have:=HK.out;omega),fun i h1 h2=>by
      by_cases e:i=p
      ·subst e;rw [<- HK.out,fQ jU];exact HS.out.1 i (by have:=HK.out;omega)
      ·rw [getD_set_ne (by have:=HK.out;omega)];exact HS.out.2 i (by have:=HK.out;omega) h2⟩
     clear hp bX df hf jt HS hpl jU;generalize r2.getD p 0=y at *;go_wp2_with fail;go_roundw
     case rel=>exact ⟨p,_,by have:=HK.out;omega,rfl,yu.out y pj,hd' (Ee.out y),lF.out y,kD,qA.out y⟩
     case measure=>(simp [intOf];omega)
end Go.Proofs.YtbifjamddbpcjaaGreatDoor
