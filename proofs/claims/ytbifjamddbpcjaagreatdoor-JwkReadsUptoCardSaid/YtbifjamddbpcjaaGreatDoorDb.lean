/- Digits of sixteen bits in memory; the document's numbers (layer 3): trim, digit, Bit, Bits. -/
import Derived.Test.YtbifjamddbpcjaaGreatDoorRs
import Derived.Test.YtbifjamddbpcjaaGreatDoorNa
import Derived.Deep.OwnRows
namespace Go.Proofs.YtbifjamddbpcjaaGreatDoor
set_option maxRecDepth 100000
set_option maxHeartbeats 25600000
open Go.RowKit
abbrev dV (k:IntKind) (n:Nat):Value:=.int k (n:Int)
def Num (k:IntKind) (w:World) (v:Value) (l:List Nat):Prop:=In16 l∧l.length≤33554432 ∧
 ((l=[]∧∃ a c,v=.slice a 0 c)∨∃ g o c,v=.slice (some ⟨g,o,none⟩) l.length c∧l.length≤c∧g<w.heap.size∧∀ (i:Nat) x,l[i]?=some x→w.cell? ⟨g,o+i,none⟩=some (dV k x))
theorem Num.fr {k:IntKind} {w u:World} {v:Value} {l:List Nat} (h:Num k w v l) (f:Fr NoB w u):Num k u v l:=by
 obtain ⟨h1,h2,h3⟩:=h
 refine ⟨h1,h2,?_⟩
 rcases h3 with ⟨h4,h5⟩|⟨g,o,c,h4,h5,h6,h7⟩
 ·exact Or.inl ⟨h4,h5⟩
 ·exact Or.inr ⟨g,o,c,h4,h5,Nat.lt_of_lt_of_le h6 f.size,fun i x hx=>(f.cell (p:=⟨g,o+i,none⟩) h6 (fun e=>e)).trans (h7 i x hx)⟩
theorem Num.sl {k:IntKind} {w:World} {v:Value} {l:List Nat} (h:Num k w v l):∃ a c,v=.slice a l.length c:=by
 rcases h.2.2 with ⟨h4,a,c,h5⟩|⟨g,o,c,h4,h5,h6,h7⟩
 ·exact ⟨a,c,by rw [h4];exact h5⟩
 ·exact ⟨_,c,h4⟩
theorem Num.at_ {k:IntKind} {w u:World} {a:Option Addr} {n c:Nat} {l:List Nat} (h:Num k w (.slice a n c) l) (f:Fr NoB w u) (hn:0<l.length) :
  ∃ g o,a=some ⟨g,o,none⟩∧l.length≤c∧∀ (i:Nat),i<l.length→u.cell? ⟨g,o+i,none⟩=some (dV k (l.getD i 0)):=by
 rcases (h.fr f).2.2 with ⟨h4,_⟩|⟨g,o,c',h4,h5,h6,h7⟩
 ·rw [h4] at hn;cases hn
 ·cases h4
  refine ⟨g,o,rfl,h5,fun i hi=>h7 i _ ?_⟩
  rw [List.getD_eq_getElem?_getD,List.getElem?_eq_getElem hi];rfl
theorem Num.take {k:IntKind} {w:World} {a:Option Addr} {n c m:Nat} {l:List Nat} (h:Num k w (.slice a n c) l) (hm:m≤l.length):Num k w (.slice a m c) (l.take m):=by
 obtain ⟨h1,h2,h3⟩:=h
 have hl:(l.take m).length=m:=by rw [List.length_take,Nat.min_eq_left hm]
 refine ⟨h1.take m,by omega,?_⟩
 rcases h3 with ⟨h4,_⟩|⟨g,o,c',h4,h5,h6,h7⟩
 ·subst h4
  have:m=0:=by simpa using hm
  subst this
  exact Or.inl ⟨rfl,_,_,rfl⟩
 ·cases h4
  refine Or.inr ⟨g,o,c,by rw [hl],by omega,h6,fun i x hx=>h7 i x ?_⟩
  by_cases hi:i<m
  ·rwa [List.getElem?_take_of_lt hi] at hx
  ·rw [List.getElem?_eq_none (by omega)] at hx;cases hx
theorem Num.of_blk {k:IntKind} {w:World} {g c:Nat} {t:TypeId} {l:List Nat} (h:Blk w g t (l.map (dV k)).toArray) (h1:In16 l) (h2:l.length≤33554432) (hc:l.length≤c):Num k w (.slice (some ⟨g,0,none⟩) l.length c) l:=
 ⟨h1,h2,Or.inr ⟨g,0,c,rfl,hc,h.lt,fun i x hx=>by rw [Nat.zero_add,h.cell];simp [hx]⟩⟩
theorem dcell {k:IntKind} {w:World} {g:Nat} {t:TypeId} {l:List Nat} (h:Blk w g t (l.map (dV k)).toArray) {q:Nat} (hq:q<l.length):w.cell? ⟨g,q,none⟩=some (dV k (l.getD q 0)):=by
 rw [h.cell,List.getD_eq_getElem?_getD,List.getElem?_eq_getElem hq];simp [hq]
theorem dset {k:IntKind} {w:World} {g:Nat} {t:TypeId} {l:List Nat} (h:Blk w g t (l.map (dV k)).toArray) (q x:Nat):Blk (w.setCell ⟨g,q,none⟩ (dV k x)) g t ((l.set q x).map (dV k)).toArray:=by
 have:=h.set_ q (dV k x)
 rw [List.setIfInBounds_toArray,← List.map_set] at this
 exact this
theorem made_one (v:Value) (n:Nat):madeCells #[v] n=Array.replicate n v:=by
 unfold madeCells
 apply Array.ext_getElem?
 intro j
 by_cases h:j<n
 ·simp [h,Nat.mod_one]
 ·simp [h]
theorem zeros_map (k:IntKind) (n:Nat):Array.replicate n (Value.int k 0)=((List.replicate n 0).map (dV k)).toArray:=by simp [dV]
def slN:Value→Nat | .slice _ n _=>n|_=>0
theorem info_u64:(Tryz.prog.info? 113).map (fun i=>(i.zero,i.size,i.bytes))=some (some (.int .u64 0),1,8):=by kernel_rfl
theorem info_u32:(Tryz.prog.info? 155).map (fun i=>(i.zero,i.size,i.bytes))=some (some (.int .u32 0),1,4):=by kernel_rfl
theorem d3trim_any (l:List Nat) (v:Value) (w:World) (hv:Num .u64 w v l) :
  Calls Tryz.prog 119 #[v] w fun e w'=>∃ v',e=.returned v'∧Num .u64 w v' (trimD l)∧w'=w:=by
 obtain ⟨a,c,rfl⟩:=hv.sl
 have hll:=hv.2.1
 have HV:=Lib.hid hv
 have HT:Hid (trimD l=l.take (trimN l l.length)):=Lib.hid rfl
 clear hv
 go_enter Tryz.func119,Tryz.ntmps119
 go_wp2_with fail
 go_loopw [0] (fun v wr=>∃ m:Nat,m≤l.length∧v=.slice a m c∧wr=w∧Hid (trimN l l.length=trimN l m)) (fun v _=>slN v)
 case atStart=>exact ⟨l.length,Nat.le_refl _,rfl,rfl,Lib.hid rfl⟩
 case round=>
  obtain ⟨m,hm,rfl,rfl,HM⟩:=hrel
  by_cases h0:m=0
  ·subst h0
   go_wp2_with fail
   go_ret
   exact ⟨_,rfl,by rw [HT.out,HM.out];exact HV.out.take (Nat.zero_le _),rfl⟩
  ·obtain ⟨j,hj⟩:∃ j,j=m - 1:=⟨_,rfl⟩
   obtain ⟨g,o,rfl,hlc,hcell⟩:=HV.out.at_ (Fr.refl _ _) (by omega)
   have d0:=hcell j (by omega)
   have HM2:Hid (trimN l m=if l.getD j 0=0 then trimN l j else m):=Lib.hid (by
    obtain rfl:m=j+1:=by omega
    rw [trimN])
   clear hcell
   generalize l.getD j 0=x at *
   have s1:(m:Int) - 1=(j:Int):=by omega
   have k1:(0:Int)<m:=by omega
   have k2:(0:Int)≤j:=by omega
   have k3:(j:Int)<m:=by omega
   have k4:(j:Int)≤c:=by omega
   clear hj
   by_cases hx:x=0
   ·subst hx
    go_wp2_with fail
    go_roundw
    case rel=>exact ⟨j,by omega,rfl,trivial,Lib.hid (by rw [HM.out,HM2.out];rfl)⟩
    case measure=>simp [slN];omega
   ·have hx2:¬ (x:Int)=0:=by omega
    go_wp2_with fail
    go_ret
    exact ⟨_,rfl,by rw [HT.out,HM.out,HM2.out,if_neg hx];exact HV.out.take hm,rfl⟩
theorem d3digit_any (l:List Nat) (v:Value) (i:Nat) (w:World) (hv:Num .u64 w v l) (hi:i≤1125899906842624) :
  Calls Tryz.prog 120 #[v,.int .i64 i] w fun e w'=>e=.returned (dV .u64 (l.getD i 0))∧w'=w:=by
 obtain ⟨a,c,rfl⟩:=hv.sl
 have hll:=hv.2.1
 have k1:(0:Int)≤i:=by omega
 by_cases h:i<l.length
 ·obtain ⟨g,o,rfl,hlc,hcell⟩:=hv.at_ (Fr.refl _ _) (by omega)
  have d0:=hcell i h
  have k2:(i:Int)<l.length:=by omega
  clear hcell hv
  generalize l.getD i 0=x at *
  go_enter Tryz.func120,Tryz.ntmps120
  go_wp2_with fail
  go_ret
  exact ⟨rfl,rfl⟩
 ·have k2:¬ (i:Int)<l.length:=by omega
  have HX:Hid (l.getD i 0=0):=Lib.hid (by rw [List.getD_eq_getElem?_getD,List.getElem?_eq_none (by omega)];rfl)
  clear hv
  generalize l.getD i 0=x at *
  go_enter Tryz.func120,Tryz.ntmps120
  go_wp2_with fail
  go_ret
  exact ⟨by rw [HX.out];rfl,rfl⟩
theorem and_u64 (a b:Nat) (ha:a<18446744073709551616) (hb:b<18446744073709551616):bits .and .u64 (a:Int) (b:Int)=((a &&& b:Nat):Int):=by
 have h1:(BitVec.ofInt 64 (a:Int)).toNat=a:=by
  rw [BitVec.ofInt_natCast,BitVec.toNat_ofNat];exact Nat.mod_eq_of_lt ha
 have h2:(BitVec.ofInt 64 (b:Int)).toNat=b:=by
  rw [BitVec.ofInt_natCast,BitVec.toNat_ofNat];exact Nat.mod_eq_of_lt hb
 show IntKind.u64.wrap ((BitVec.ofInt 64 (a:Int) &&& BitVec.ofInt 64 (b:Int)).toNat:Int)=_
 rw [BitVec.toNat_and,h1,h2,IntKind.wrap_u64]
 have:=Nat.and_le_left (n:=a) (m:=b)
 omega
theorem and_u32 (a b:Nat) (ha:a<4294967296) (hb:b<4294967296):bits .and .u32 (a:Int) (b:Int)=((a &&& b:Nat):Int):=by
 have h1:(BitVec.ofInt 32 (a:Int)).toNat=a:=by
  rw [BitVec.ofInt_natCast,BitVec.toNat_ofNat];exact Nat.mod_eq_of_lt ha
 have h2:(BitVec.ofInt 32 (b:Int)).toNat=b:=by
  rw [BitVec.ofInt_natCast,BitVec.toNat_ofNat];exact Nat.mod_eq_of_lt hb
 show IntKind.u32.wrap ((BitVec.ofInt 32 (a:Int) &&& BitVec.ofInt 32 (b:Int)).toNat:Int)=_
 rw [BitVec.toNat_and,h1,h2,IntKind.wrap_u32]
 have:=Nat.and_le_left (n:=a) (m:=b)
 omega
theorem low_u64 (n:Nat) (h:n<18446744073709551616):bits .and .u64 (n:Int) 65535=((n % 65536:Nat):Int):=by
 have:=and_u64 n 65535 h (by omega)
 rw [show n &&& 65535=n % 65536 from Nat.and_two_pow_sub_one_eq_mod n 16] at this
 exact this
theorem low_u32 (n:Nat) (h:n<4294967296):bits .and .u32 (n:Int) 65535=((n % 65536:Nat):Int):=by
 have:=and_u32 n 65535 h (by omega)
 rw [show n &&& 65535=n % 65536 from Nat.and_two_pow_sub_one_eq_mod n 16] at this
 exact this
theorem and1_u64 (n:Nat) (h:n<18446744073709551616):bits .and .u64 (n:Int) 1=((n % 2:Nat):Int):=by
 have:=and_u64 n 1 h (by omega)
 rw [Nat.and_one_is_mod] at this
 exact this
theorem and1_fin {c res:Nat} {w:World} (d:Nat) (h:res=c / d % 2) (hc:c<65536):Ending.returned (.int .u64 (bits .and .u64 ((c:Int) / (d:Int)) 1))=.returned (.int .u64 (res:Int))∧w=w:=by
 refine ⟨?_,rfl⟩
 rw [h,← Int.natCast_ediv,and1_u64 _ (Nat.lt_of_le_of_lt (Nat.div_le_self _ _) (by omega))]
theorem bit_in {V r:Nat} (hr:r<16):V % 65536 / 2 ^ r % 2=V / 2 ^ r % 2:=by
 rcases (show r=0∨r=1∨r=2∨r=3∨r=4∨r=5∨r=6∨r=7∨r=8∨r=9∨r=10∨r=11∨r=12∨r=13∨r=14∨r=15 by omega) with rfl|rfl|rfl|rfl|rfl|rfl|rfl|rfl|rfl|rfl|rfl|rfl|rfl|rfl|rfl|rfl
 all_goals (simp only [Nat.reducePow];omega)
theorem bit_is {l:List Nat} (h:In16 l) (k:Nat):l.getD (k / 16) 0 / 2 ^ (k % 16) % 2=val16 l / 2 ^ k % 2:=by
 rw [← digit_mod' h,bit_in (Nat.mod_lt _ (by decide)),Nat.div_div_eq_div_mul,show (65536:Nat)=2 ^ 16 from rfl,← Nat.pow_mul,← Nat.pow_add,Nat.div_add_mod]
theorem bits_down {V n:Nat} (h:V<2 ^ (n+1)) (h0:V / 2 ^ n % 2=0):V<2 ^ n:=by
 have h1:V / 2 ^ n<2:=Nat.div_lt_of_lt_mul (by rw [Nat.pow_succ] at h;exact h)
 have h2:V / 2 ^ n=0:=by generalize V / 2 ^ n=q at *;omega
 exact (Nat.div_eq_zero_iff_lt (Nat.pow_pos (by decide))).1 h2
theorem bits_stop {V n:Nat} (h0:V / 2 ^ n % 2=1):2 ^ n≤V:=by
 refine Decidable.byContradiction fun hc => ?_
 rw [Nat.div_eq_of_lt (by omega)] at h0
 cases h0
theorem d3bit_any (l:List Nat) (v:Value) (k:Nat) (w:World) (hv:Num .u64 w v l) (hk:k≤1125899906842624) :
  Calls Tryz.prog 73 #[v,.int .i64 k] w fun e w'=>e=.returned (dV .u64 (val16 l / 2 ^ k % 2))∧w'=w:=by
 obtain ⟨q,hq⟩:∃ q,q=k / 16:=⟨_,rfl⟩
 obtain ⟨r,hr⟩:∃ r,r=k % 16:=⟨_,rfl⟩
 have HD:=Lib.hid (d3digit_any l v q w hv (by omega))
 have HB:Hid (val16 l / 2 ^ k % 2=l.getD q 0 / 2 ^ r % 2):=Lib.hid (by rw [hq,hr,bit_is hv.1])
 have hxl:=hv.1.at q
 have e1:(k:Int).tdiv 16=(q:Int):=by rw [Int.tdiv_eq_ediv_of_nonneg (by omega)];omega
 have e2:(k:Int).tmod 16=(r:Int):=by rw [Int.tmod_eq_emod_of_nonneg (by omega)];omega
 have e3:(k:Int) / 16=(q:Int):=by omega
 have e4:(k:Int) % 16=(r:Int):=by omega
 have hr16:r<16:=by omega
 generalize val16 l / 2 ^ k % 2=res at *
 generalize l.getD q 0=x at *
 clear hq hr hv
 rcases (show r=0∨r=1∨r=2∨r=3∨r=4∨r=5∨r=6∨r=7∨r=8∨r=9∨r=10∨r=11∨r=12∨r=13∨r=14∨r=15 by omega) with rfl|rfl|rfl|rfl|rfl|rfl|rfl|rfl|rfl|rfl|rfl|rfl|rfl|rfl|rfl|rfl
 all_goals (simp only [Nat.reducePow,Nat.div_one] at HB)
 all_goals go_enter Tryz.func73,Tryz.ntmps73
 all_goals go_wp2_with (go_at_call 120;((with_reducible refine HD.out.mono ?_);rintro e w1 ⟨rfl,rfl⟩))
 all_goals go_ret
 ·exact ⟨by rw [HB.out];exact congrArg (fun z=>Ending.returned (.int .u64 z)) (and1_u64 _ (by omega)),rfl⟩
 ·exact and1_fin 2 HB.out hxl
 ·exact and1_fin 4 HB.out hxl
 ·exact and1_fin 8 HB.out hxl
 ·exact and1_fin 16 HB.out hxl
 ·exact and1_fin 32 HB.out hxl
 ·exact and1_fin 64 HB.out hxl
 ·exact and1_fin 128 HB.out hxl
 ·exact and1_fin 256 HB.out hxl
 ·exact and1_fin 512 HB.out hxl
 ·exact and1_fin 1024 HB.out hxl
 ·exact and1_fin 2048 HB.out hxl
 ·exact and1_fin 4096 HB.out hxl
 ·exact and1_fin 8192 HB.out hxl
 ·exact and1_fin 16384 HB.out hxl
 ·exact and1_fin 32768 HB.out hxl
theorem bits_start {l:List Nat} (h:In16 l):val16 l<2 ^ (16*l.length):=by
 have:=val16_lt h
 rwa [show (65536:Nat)=2 ^ 16 from rfl,← Nat.pow_mul] at this
theorem d3bits_any (l:List Nat) (v:Value) (w:World) (hv:Num .u64 w v l) :
  Calls Tryz.prog 74 #[v] w fun e w'=>∃ n:Nat,e=.returned (.int .i64 n)∧IsBits (val16 l) n∧w'=w:=by
 obtain ⟨a,c,rfl⟩:=hv.sl
 have hll:=hv.2.1
 have HB:Hid (∀ (k:Nat),k≤1125899906842624→Calls Tryz.prog 73 #[.slice a l.length c,.int .i64 k] w fun e w'=>e=.returned (dV .u64 (val16 l / 2 ^ k % 2))∧w'=w):=Lib.hid (fun k hk=>d3bit_any l _ k w hv hk)
 have HS:=Lib.hid (bits_start hv.1)
 generalize val16 l=V at *
 clear hv
 go_enter Tryz.func74,Tryz.ntmps74
 go_wp2_with fail
 go_loopw [3] (fun v wr=>∃ n:Nat,n≤16*l.length∧v=.int .i64 n∧wr=w∧Hid (V<2 ^ n)) (fun v _=>(intOf v).toNat)
 case atStart=>exact ⟨16*l.length,Nat.le_refl _,by simp,rfl,HS⟩
 case round=>
  obtain ⟨n,hn,rfl,rfl,HV⟩:=hrel
  by_cases h0:n=0
  ·subst h0
   go_wp2_with fail
   go_ret
   exact ⟨0,rfl,⟨HV.out,fun h=>absurd rfl h⟩,rfl⟩
  ·obtain ⟨j,hj⟩:∃ j,j=n - 1:=⟨_,rfl⟩
   have HN:Hid (n=j+1):=Lib.hid (by omega)
   have s1:(n:Int) - 1=(j:Int):=by omega
   have k1:(0:Int)<n:=by omega
   have k2:(0:Int)≤j:=by omega
   have HB2:=Lib.hid (HB.out j (by omega))
   have hbl:V / 2 ^ j % 2<2:=Nat.mod_lt _ (by decide)
   obtain ⟨b,hb⟩:∃ b,b=V / 2 ^ j % 2:=⟨_,rfl⟩
   rw [← hb] at HB2 hbl
   have HBB:=Lib.hid hb
   clear hj hb
   rcases (show b=0∨b=1 by omega) with rfl|rfl
   ·go_wp2_with (go_at_call 73;((with_reducible refine HB2.out.mono ?_);rintro e w1 ⟨rfl,rfl⟩))
    go_roundw
    case rel=>exact ⟨j,by omega,rfl,trivial,Lib.hid (bits_down (by rw [← HN.out];exact HV.out) HBB.out.symm)⟩
    case measure=>simp [intOf];omega
   ·go_wp2_with (go_at_call 73;((with_reducible refine HB2.out.mono ?_);rintro e w1 ⟨rfl,rfl⟩))
    go_ret
    exact ⟨n,rfl,⟨HV.out,fun _=>by rw [show n - 1=j by have:=HN.out;omega];exact bits_stop HBB.out.symm⟩,rfl⟩
theorem cmp_ge (x y:Nat):(0≤cmpN x y) ↔ y≤x:=by
 unfold cmpN
 by_cases h:x<y
 ·rw [if_pos h];constructor<;>intro h2<;>omega
 ·rw [if_neg h]
  by_cases h3:y<x
  ·rw [if_pos h3];constructor<;>intro h2<;>omega
  ·rw [if_neg h3];constructor<;>intro h2<;>omega
theorem d3of_any (s:Bs) (w:World) (hl:s.length≤33554432) :
  Calls Tryz.prog 71 #[.string ⟨s.toArray⟩] w fun e w'=>∃ v l,e=.returned v∧Num .u64 w' v l∧Top l∧val16 l=natB s∧Fr NoB w w':=by
 obtain ⟨h,hh⟩:∃ h,h=s.length / 2:=⟨_,rfl⟩
 obtain ⟨n,hn⟩:∃ n,n=h+1:=⟨_,rfl⟩
 have hmk:=run_make_row' (P:=Tryz.prog) 110 113 (.int .u64 0) 8 Tryz.underlying110 info_u64 rfl .i64 .i64 n (by omega) (by omega)
 rw [made_one] at hmk
 have e1:(s.length:Int).tdiv 2=(h:Int):=by rw [Int.tdiv_eq_ediv_of_nonneg (by omega)];omega
 have e2:(s.length:Int) / 2=(h:Int):=by omega
 have e3:(h:Int)+1=(n:Int):=by omega
 have hsz:(⟨s.toArray⟩:ByteArray).size=s.length:=rfl
 have HN:Hid (n=s.length / 2+1):=Lib.hid (by omega)
 have f0:Fr NoB w (w.alloc (.cells (Array.replicate n (Value.int .u64 0)) 113)):=(Fr.refl _ _).alloc _
 have b0:=Blk.new w 113 (Array.replicate n (Value.int .u64 0))
 clear hh hn
 go_enter Tryz.func71,Tryz.ntmps71
 go_upto_region 2 with fail
 generalize w.alloc (.cells (Array.replicate n (Value.int .u64 0)) 113)=W at *
 rw [zeros_map] at b0
 go_wp2_with fail
 go_loopw [4] (fun v wr=>∃ (i:Nat) (l:List Nat),i≤s.length∧v=.int .i64 i∧In16 l∧Hid (l.length=n)∧Hid (val16 l=natB (s.drop (s.length - i)))∧Blk wr w.heap.size 113 (l.map (dV .u64)).toArray∧Fr NoB w wr) (fun v _=>s.length - (intOf v).toNat)
 case atStart=>exact ⟨0,List.replicate n 0,Nat.zero_le _,rfl,In16.zeros n,Lib.hid (by simp),Lib.hid (by rw [val16_zeros];simp [natB]),b0,f0⟩
 case round=>
  clear b0 f0 hmk e1 e2 e3
  obtain ⟨i,l,hi,rfl,hin,HLn,HV,hb,hf⟩:=hrel
  by_cases hlt:i<s.length
  ·obtain ⟨p,hp⟩:∃ p,p=s.length - 1 - i:=⟨_,rfl⟩
   obtain ⟨q,hq⟩:∃ q,q=i / 2:=⟨_,rfl⟩
   have hql:q<l.length:=by have:=HLn.out;have:=HN.out;omega
   have HST:=Lib.hid (of_step (l:=l) hlt hin (by rw [← hq];exact hql) HV.out)
   rw [← hq,← hp] at HST
   have hpl:p<s.length:=by omega
   have hg:=get_list s p hpl
   have hgd:s.getD p 0=s[p]:=by rw [List.getD_eq_getElem?_getD,List.getElem?_eq_getElem hpl];rfl
   rw [hgd] at HST
   clear hgd
   generalize s[p]=c at *
   have hcl:=c.toNat_lt
   have k1:(0:Int)≤i:=by omega
   have k2:(i:Int)<s.length:=by omega
   have s1:(s.length:Int) - 1 - (i:Int)=(p:Int):=by omega
   have k3:(0:Int)≤p:=by omega
   have k4:(p:Int)<s.length:=by omega
   have e1:(i:Int).tdiv 2=(q:Int):=by rw [Int.tdiv_eq_ediv_of_nonneg (by omega)];omega
   have e3:(i:Int) / 2=(q:Int):=by omega
   have k5:(0:Int)≤q:=by omega
   have k6:(q:Int)<n:=by have:=HLn.out;omega
   have d0:=dcell hb hql
   have dz:=hb.frozen q
   have hx0:=hin.at q
   have HB:=Lib.hid (fun x:Nat=>dset hb q x)
   have HI:=Lib.hid (fun x hx=>hin.set q x hx)
   have HF:=Lib.hid (fun x:Nat=>hf.setCell_new (p:=⟨w.heap.size,q,none⟩) (Nat.le_refl _) (dV .u64 x))
   have HLn2:Hid (∀ x:Nat,(l.set q x).length=n):=Lib.hid (fun x=>by rw [List.length_set];exact HLn.out)
   clear hp hq hin hb hf hql HLn HV
   generalize l.getD q 0=x0 at *
   rcases Nat.mod_two_eq_zero_or_one i with hm|hm
   ·have e2:(i:Int).tmod 2=0:=by rw [Int.tmod_eq_emod_of_nonneg (by omega)];omega
    have e4:(i:Int) % 2=0:=by omega
    have hpl2:plc c.toNat i=c.toNat:=by unfold plc;rw [if_neg (by omega)]
    rw [hpl2] at HST
    have s2:(x0:Int)+(c.toNat:Int)=((x0+c.toNat:Nat):Int):=by omega
    have hxx:=HST.out.2
    generalize x0+c.toNat=x1 at *
    clear hpl2 hm
    go_wp2_with fail
    go_roundw
    case rel=>exact ⟨i+1,_,by omega,by simp,HI.out x1 hxx,Lib.hid (HLn2.out x1),Lib.hid HST.out.1,HB.out x1,HF.out x1⟩
    case measure=>simp [intOf];omega
   ·have e2:(i:Int).tmod 2=1:=by rw [Int.tmod_eq_emod_of_nonneg (by omega)];omega
    have e4:(i:Int) % 2=1:=by omega
    have hpl2:plc c.toNat i=c.toNat*256:=by unfold plc;rw [if_pos hm]
    rw [hpl2] at HST
    have s2:(x0:Int)+(c.toNat:Int)*256=((x0+c.toNat*256:Nat):Int):=by omega
    have hxx:=HST.out.2
    generalize x0+c.toNat*256=x1 at *
    clear hpl2 hm
    go_wp2_with fail
    go_roundw
    case rel=>exact ⟨i+1,_,by omega,by simp,HI.out x1 hxx,Lib.hid (HLn2.out x1),Lib.hid HST.out.1,HB.out x1,HF.out x1⟩
    case measure=>simp [intOf];omega
  ·obtain rfl:i=s.length:=by omega
   have hll:l.length=n:=HLn.out
   have HR:=Lib.hid (d3trim_any l (.slice (some ⟨w.heap.size,0,none⟩) n n) wr (by
    have:=Num.of_blk (c:=n) hb hin (by have:=HN.out;omega) (by omega)
    rwa [hll] at this))
   have HVV:Hid (val16 l=natB s):=Lib.hid (by have:=HV.out;simpa using this)
   clear hb hll
   go_wp2_with (go_at_call 119;((with_reducible refine HR.out.mono ?_);rintro e w1 ⟨v1,rfl,h1,rfl⟩))
   go_ret
   exact ⟨_,_,rfl,h1,trim_top l,by rw [val16_trim];exact HVV.out,hf⟩
theorem drop_at16 {l:List Nat} {j:Nat} (h:j<l.length):val16 (l.drop j)=l.getD j 0+65536*val16 (l.drop (j+1)):=by
 rw [List.drop_eq_getElem_cons h,val16,List.getD_eq_getElem?_getD,List.getElem?_eq_getElem h];rfl
theorem lead_app {b r:Bs} (h:Lead b) (hb:b≠[]):Lead (b++r):=by
 intro c t e
 cases b with
 | nil=>exact absurd rfl hb
 | cons d q=>
  rw [List.cons_append] at e
  cases e
  exact h c q rfl
theorem own_formD {lo:Nat} {w:World} {v:Value} {s:Bs} (h:BR lo w v s):∃ ao c,v=.slice ao s.length c:=by
 rcases h.2 with ⟨rfl,h0⟩|⟨g,cap,cur,rfl,_⟩
 ·exact ⟨none,0,by rw [h0]⟩
 ·exact ⟨_,_,rfl⟩
theorem u8_of {n:Nat} (h:n<256):∃ c:UInt8,c.toNat=n:=⟨n.toUInt8,by simp [Nat.toUInt8,UInt8.toNat_ofNat',Nat.mod_eq_of_lt h]⟩
theorem d3form_any (l:List Nat) (v:Value) (w:World) (hv:Num .u64 w v l) (ht:Top l) :
  Calls Tryz.prog 72 #[v] w fun e w'=>∃ f:Bs,e=.returned (.string ⟨f.toArray⟩)∧Lead f∧natB f=val16 l∧Fr NoB w w':=by
 obtain ⟨a,c,rfl⟩:=hv.sl
 have hll:=hv.2.1
 have HV:=Lib.hid hv
 have HTop:Hid (∀ n,l.length=n+1→l.getD n 0≠0):=Lib.hid ht
 clear hv ht
 go_enter Tryz.func72,Tryz.ntmps72
 go_upto_region 2 with fail
 have br0:BR w.heap.size (w.alloc (.cells #[] 5)) (.slice (some ⟨w.heap.size,0,none⟩) 0 0) []:=BR.first w #[] [] rfl (by simp)
 have f0:Fr NoB w (w.alloc (.cells #[] 5)):=(Fr.refl _ _).alloc _
 generalize w.alloc (.cells #[] 5)=W at *
 go_wp2_with fail
 go_loopw [3,4] (fun v3 v4 wr=>∃ (m:Nat) (z:Int) (b:Bs),m≤l.length∧v4=.int .i64 z∧Hid (z=(m:Int) - 1)∧BR w.heap.size wr v3 b∧b.length≤2*(l.length - m)∧(m<l.length ↔ b≠[])∧Hid (Lead b∧natB b=val16 (l.drop m))∧Fr NoB w wr) (fun _ v4 _=>(intOf v4+1).toNat)
 case atStart=>exact ⟨l.length,_,[],Nat.le_refl _,rfl,Lib.hid rfl,br0,Nat.zero_le _,by simp,Lib.hid ⟨fun c r h=>by (cases h),by simp [natB,val16]⟩,f0⟩
 case round=>
  clear br0 f0
  obtain ⟨m,z,b,hm,rfl,HZ,hb,hbl,hbe,HB,hf⟩:=hrel
  have hz:=HZ.out
  by_cases h0:m=0
  ·subst h0
   have k1:z<0:=by omega
   have hcv:=hb.conv
   clear hz hbe
   go_wp2_with fail
   go_ret
   exact ⟨b,rfl,HB.out.1,by have:=HB.out.2;simpa using this,hf⟩
  ·obtain ⟨j,hj⟩:∃ j,j=m - 1:=⟨_,rfl⟩
   obtain rfl:z=(j:Int):=by omega
   have HM:Hid (m=j+1):=Lib.hid (by omega)
   have hjl:j<l.length:=by omega
   have k0:¬ (j:Int)<0:=by omega
   have k1:(0:Int)≤j:=by omega
   have k2:(j:Int)<l.length:=by omega
   obtain ⟨g,o,rfl,hlc,hcell⟩:=HV.out.at_ hf (by omega)
   have hlg:g<w.heap.size:=by
    rcases HV.out.2.2 with ⟨h4,_⟩|⟨g',o',c',h4,_,h6,_⟩
    ·rw [h4] at hjl;simp at hjl
    ·cases h4;exact h6
   have d0:=hcell j hjl
   have HD:=Lib.hid (drop_at16 hjl)
   have hxl:=HV.out.1.at j
   have HX0:Hid (b=[]→l.getD j 0≠0):=Lib.hid (fun e=>HTop.out j (by
    have:¬ m<l.length:=fun h=>hbe.1 h e
    omega))
   have HX:Hid (natB b=val16 (l.drop (j+1))):=Lib.hid (by rw [← HM.out];exact HB.out.2)
   have HLe:=Lib.hid HB.out.1
   clear hcell hj hz HB
   obtain ⟨x,hxe⟩:∃ x,l.getD j 0=x:=⟨_,rfl⟩
   rw [hxe] at d0 HD hxl HX0
   obtain ⟨hi,hhi⟩:=u8_of (n:=x / 256) (by omega)
   obtain ⟨lo,hlo⟩:=u8_of (n:=x % 256) (by omega)
   have hh1:=hi.toNat_lt
   have hl1:=lo.toNat_lt
   have HE1:Hid ((x:Int) / 256=(hi.toNat:Int)):=Lib.hid (by omega)
   have HE2:Hid ((x:Int) % 256=(lo.toNat:Int)):=Lib.hid (by omega)
   have hbsz:=hf.size
   have HS:Hid (∀ u,Fr NoB w u→u.cell? ⟨g,o+j,none⟩=some (dV .u64 x)):=Lib.hid (fun u f=>by
    obtain ⟨g2,o2,e9,_,hc⟩:=HV.out.at_ f (by omega)
    cases e9
    have:=hc j hjl
    rwa [hxe] at this)
   by_cases hbb:b=[]
   ·subst hbb
    have hx0:=HX0.out rfl
    have k3:¬ (0:Int)<(([]:Bs).length:Int):=by simp
    obtain ⟨ao,ca,rfl⟩:=own_formD hb
    by_cases hbig:x≤255
    ·have k4:¬ (255:Int)<(x:Int):=by omega
     have fA:Fr NoB wr (wr.alloc (.cells #[.int .u8 ((x:Int) % 256)] 5)):=(Fr.refl _ _).alloc _
     have hA:=hb.fr fA
     clear hhi
     go_wp2_with (at_builtin;go_loud (refine br_row rfl _ _ rfl w.heap.size (.slice ao 0 ca) ([]) rfl hA wr.heap.size 1 1 [lo] rfl rfl (new_cells wr #[.int .u8 ((x:Int) % 256)] [lo] (by rw [HE2.out];rfl)) (by simp<;>omega) (by simp<;>omega) ?_;intro v4 w4 hown4 hgr4))
     go_roundw
     case rel=>exact ⟨j,_,_,by omega,rfl,Lib.hid rfl,hown4,by simp<;>omega,by simp<;>omega,Lib.hid ⟨fun c r e=>(by simp at e;obtain ⟨rfl,rfl⟩:=e;intro e0;subst e0;simp at hlo;omega),by rw [HD.out,← HX.out];simp [natB];omega⟩,hA.grown (hf.trans fA) hgr4 (Nat.le_refl _)⟩
     case measure=>(simp [intOf]<;>omega)
    ·have k4:(255:Int)<(x:Int):=by omega
     have fA:Fr NoB wr (wr.alloc (.cells #[.int .u8 ((x:Int) / 256)] 5)):=(Fr.refl _ _).alloc _
     have hA:=hb.fr fA
     go_upto_region 7 with (at_builtin;go_loud (refine br_row rfl _ _ rfl w.heap.size (.slice ao 0 ca) ([]) rfl hA wr.heap.size 1 1 [hi] rfl rfl (new_cells wr #[.int .u8 ((x:Int) / 256)] [hi] (by rw [HE1.out];rfl)) (by simp<;>omega) (by simp<;>omega) ?_;intro v4 w4 hown4 hgr4))
     have f4:Fr NoB w w4:=hA.grown (hf.trans fA) hgr4 (Nat.le_refl _)
     have d1:=HS.out w4 f4
     have h4s:=f4.size
     have fB:Fr NoB w4 (w4.alloc (.cells #[.int .u8 ((x:Int) % 256)] 5)):=(Fr.refl _ _).alloc _
     have hB:=hown4.fr fB
     clear d0
     go_wp2_with (at_builtin;go_loud (refine br_row rfl _ _ rfl w.heap.size v4 ([]++[hi]) rfl hB w4.heap.size 1 1 [lo] rfl rfl (new_cells w4 #[.int .u8 ((x:Int) % 256)] [lo] (by rw [HE2.out];rfl)) (by simp<;>omega) (by simp<;>omega) ?_;intro v5 w5 hown5 hgr5))
     go_roundw
     case rel=>exact ⟨j,_,_,by omega,rfl,Lib.hid rfl,hown5,by simp<;>omega,by simp<;>omega,Lib.hid ⟨fun c r e=>(by simp at e;obtain ⟨rfl,rfl⟩:=e;intro e0;subst e0;simp at hhi;omega),by rw [natB_snoc,natB_snoc,HX.out,HD.out];omega⟩,hB.grown (f4.trans fB) hgr5 (Nat.le_refl _)⟩
     case measure=>(simp [intOf]<;>omega)
   ·have hbp:=List.length_pos_iff.2 hbb
    have k3:(0:Int)<b.length:=by omega
    obtain ⟨ao,ca,rfl⟩:=own_formD hb
    have fA:Fr NoB wr (wr.alloc (.cells #[.int .u8 ((x:Int) / 256)] 5)):=(Fr.refl _ _).alloc _
    have hA:=hb.fr fA
    go_upto_region 7 with (at_builtin;go_loud (refine br_row rfl _ _ rfl w.heap.size (.slice ao b.length ca) (b) rfl hA wr.heap.size 1 1 [hi] rfl rfl (new_cells wr #[.int .u8 ((x:Int) / 256)] [hi] (by rw [HE1.out];rfl)) (by simp<;>omega) (by simp<;>omega) ?_;intro v4 w4 hown4 hgr4))
    have f4:Fr NoB w w4:=hA.grown (hf.trans fA) hgr4 (Nat.le_refl _)
    have d1:=HS.out w4 f4
    have h4s:=f4.size
    have fB:Fr NoB w4 (w4.alloc (.cells #[.int .u8 ((x:Int) % 256)] 5)):=(Fr.refl _ _).alloc _
    have hB:=hown4.fr fB
    clear d0
    go_wp2_with (at_builtin;go_loud (refine br_row rfl _ _ rfl w.heap.size v4 (b++[hi]) rfl hB w4.heap.size 1 1 [lo] rfl rfl (new_cells w4 #[.int .u8 ((x:Int) % 256)] [lo] (by rw [HE2.out];rfl)) (by simp<;>omega) (by simp<;>omega) ?_;intro v5 w5 hown5 hgr5))
    go_roundw
    case rel=>exact ⟨j,_,_,by omega,rfl,Lib.hid rfl,hown5,(by have hm1:=HM.out;simp;omega),by simp<;>omega,Lib.hid ⟨by rw [List.append_assoc];exact lead_app HLe.out hbb,by rw [natB_snoc,natB_snoc,HX.out,HD.out];omega⟩,hB.grown (f4.trans fB) hgr5 (Nat.le_refl _)⟩
    case measure=>(simp [intOf]<;>omega)
theorem d3cmp_any (a b:List Nat) (va vb:Value) (w:World) (ha:Num .u64 w va a) (hb:Num .u64 w vb b) (ta:Top a) (tb:Top b) :
  Calls Tryz.prog 75 #[va,vb] w fun e w'=>e=.returned (.int .i64 (cmpN (val16 a) (val16 b)))∧Fr NoB w w':=by
 obtain ⟨aa,ca,rfl⟩:=ha.sl
 obtain ⟨ab,cb,rfl⟩:=hb.sl
 have hla:=ha.2.1
 have hlb:=hb.2.1
 rcases Nat.lt_trichotomy a.length b.length with hl|hl|hl
 ·have HR:Hid (cmpN (val16 a) (val16 b) = -1):=Lib.hid (by unfold cmpN;rw [if_pos (len_lt tb ha.1 hl)])
  have k1:(a.length:Int)<b.length:=by omega
  clear ha hb ta tb hl
  generalize cmpN (val16 a) (val16 b)=res at *
  go_enter Tryz.func75,Tryz.ntmps75
  go_wp2_with fail
  go_ret
  exact ⟨by rw [HR.out];rfl,Fr.refl _ _⟩
 ·have HA:=Lib.hid ha
  have HB:=Lib.hid hb
  have k1:¬ (a.length:Int)<b.length:=by omega
  have k2:¬ (b.length:Int)<a.length:=by omega
  have HL:Hid (a.length=b.length):=Lib.hid hl
  obtain ⟨res,hres⟩:∃ r,r=cmpN (val16 a) (val16 b):=⟨_,rfl⟩
  rw [← hres]
  have HRS:=Lib.hid hres
  clear ha hb ta tb hl hres
  go_enter Tryz.func75,Tryz.ntmps75
  go_wp2_with fail
  go_loopw [5] (fun v wr=>∃ (m:Nat) (z:Int),m≤a.length∧v=.int .i64 z∧Hid (z=(m:Int) - 1)∧Hid (a.drop m=b.drop m)∧Fr NoB w wr) (fun v _=>(intOf v+1).toNat)
  case atStart=>exact ⟨a.length,_,Nat.le_refl _,rfl,Lib.hid rfl,Lib.hid (by rw [List.drop_length,HL.out,List.drop_length]),Fr.refl _ _⟩
  case round=>
   obtain ⟨m,z,hm,rfl,HZ,HD,hf⟩:=hrel
   have hz:=HZ.out
   by_cases h0:m=0
   ·subst h0
    have k3:z<0:=by omega
    have HR:Hid (res=0):=Lib.hid (by
     rw [HRS.out]
     have h9:a=b:=by simpa using HD.out
     unfold cmpN;rw [h9,if_neg (Nat.lt_irrefl _),if_neg (Nat.lt_irrefl _)])
    clear hz
    go_wp2_with fail
    go_ret
    exact ⟨by rw [HR.out];rfl,hf⟩
   ·obtain ⟨j,hj⟩:∃ j,j=m - 1:=⟨_,rfl⟩
    obtain rfl:z=(j:Int):=by omega
    have HM:Hid (m=j+1):=Lib.hid (by omega)
    have hjl:j<a.length:=by omega
    have hjb:j<b.length:=by have:=HL.out;omega
    have k0:¬ (j:Int)<0:=by omega
    have k3:(0:Int)≤j:=by omega
    have k4:(j:Int)<a.length:=by omega
    have k5:(j:Int)<b.length:=by omega
    obtain ⟨g,o,rfl,hlc,hc1⟩:=HA.out.at_ hf (by omega)
    obtain ⟨g2,o2,rfl,hlc2,hc2⟩:=HB.out.at_ hf (by omega)
    have d0:=hc1 j hjl
    have d1:=hc2 j hjb
    have hxl:=HA.out.1.at j
    have hyl:=HB.out.1.at j
    have HD1:Hid (a.drop (j+1)=b.drop (j+1)):=Lib.hid (by rw [← HM.out];exact HD.out)
    have HL1:Hid (a.getD j 0<b.getD j 0→res = -1):=Lib.hid (fun h=>by
     rw [HRS.out];unfold cmpN;rw [if_pos (top_lt HA.out.1 HL.out hjl HD1.out h)])
    have HG1:Hid (b.getD j 0<a.getD j 0→res=1):=Lib.hid (fun h=>by
     rw [HRS.out]
     have h9:=top_lt HB.out.1 HL.out.symm hjb HD1.out.symm h
     unfold cmpN;rw [if_neg (by omega),if_pos h9])
    have HE1:Hid (a.getD j 0=b.getD j 0→a.drop j=b.drop j):=Lib.hid (fun h=>drop_step HL.out hjl HD1.out h)
    clear hc1 hc2 hj hz
    generalize a.getD j 0=x at *
    generalize b.getD j 0=y at *
    rcases Nat.lt_trichotomy x y with h|h|h
    ·have e1:(x:Int)<y:=by omega
     have HR:=Lib.hid (HL1.out h)
     go_wp2_with fail
     go_quiet (fail)
     go_wp2_with fail
     go_ret
     exact ⟨by rw [HR.out];rfl,hf.drewN _⟩
    ·have e1:¬ (x:Int)<y:=by omega
     have e2:¬ (y:Int)<x:=by omega
     have HQ:=Lib.hid (HE1.out h)
     go_wp2_with fail
     go_quiet (fail)
     go_wp2_with fail
     go_quiet (fail)
     go_wp2_with fail
     go_roundw
     case rel=>exact ⟨j,_,by omega,rfl,Lib.hid rfl,HQ,hf.drewN _⟩
     case measure=>(simp [intOf]<;>omega)
    ·have e1:¬ (x:Int)<y:=by omega
     have e2:(y:Int)<x:=by omega
     have HR:=Lib.hid (HG1.out h)
     go_wp2_with fail
     go_quiet (fail)
     go_wp2_with fail
     go_quiet (fail)
     go_wp2_with fail
     go_ret
     exact ⟨by rw [HR.out];rfl,(hf.drewN _).drewN _⟩
 ·have HR:Hid (cmpN (val16 a) (val16 b)=1):=Lib.hid (by
   have:=len_lt ta hb.1 hl
   unfold cmpN;rw [if_neg (by omega),if_pos this])
  have k1:¬ (a.length:Int)<b.length:=by omega
  have k2:(b.length:Int)<a.length:=by omega
  clear ha hb ta tb hl
  generalize cmpN (val16 a) (val16 b)=res at *
  go_enter Tryz.func75,Tryz.ntmps75
  go_wp2_with fail
  go_ret
  exact ⟨by rw [HR.out];rfl,Fr.refl _ _⟩
theorem d5trim_any (l:List Nat) (v:Value) (w:World) (hv:Num .u32 w v l) :
  Calls Tryz.prog 169 #[v] w fun e w'=>∃ v',e=.returned v'∧Num .u32 w v' (trimD l)∧w'=w:=by
 obtain ⟨a,c,rfl⟩:=hv.sl
 have hll:=hv.2.1
 have HV:=Lib.hid hv
 have HT:Hid (trimD l=l.take (trimN l l.length)):=Lib.hid rfl
 clear hv
 go_enter Tryz.func169,Tryz.ntmps169
 go_wp2_with fail
 go_loopw [3] (fun v wr=>∃ m:Nat,m≤l.length∧v=.int .i64 m∧wr=w∧Hid (trimN l l.length=trimN l m)) (fun v _=>(intOf v).toNat)
 case atStart=>exact ⟨l.length,Nat.le_refl _,rfl,rfl,Lib.hid rfl⟩
 case round=>
  obtain ⟨m,hm,rfl,rfl,HM⟩:=hrel
  by_cases h0:m=0
  ·subst h0
   go_wp2_with fail
   go_ret
   exact ⟨_,rfl,by rw [HT.out,HM.out];exact HV.out.take (Nat.zero_le _),rfl⟩
  ·obtain ⟨j,hj⟩:∃ j,j=m - 1:=⟨_,rfl⟩
   obtain ⟨g,o,rfl,hlc,hcell⟩:=HV.out.at_ (Fr.refl _ _) (by omega)
   have d0:=hcell j (by omega)
   have HM2:Hid (trimN l m=if l.getD j 0=0 then trimN l j else m):=Lib.hid (by
    obtain rfl:m=j+1:=by omega
    rw [trimN])
   clear hcell
   generalize l.getD j 0=x at *
   have s1:(m:Int) - 1=(j:Int):=by omega
   have k1:(0:Int)<m:=by omega
   have k2:(0:Int)≤j:=by omega
   have k3:(j:Int)<l.length:=by omega
   have k5:(0:Int)≤m:=by omega
   have k4:(m:Int)≤c:=by omega
   clear hj
   by_cases hx:x=0
   ·subst hx
    go_wp2_with fail
    go_roundw
    case rel=>exact ⟨j,by omega,rfl,trivial,Lib.hid (by rw [HM.out,HM2.out];rfl)⟩
    case measure=>simp [intOf];omega
   ·have hx2:¬ (x:Int)=0:=by omega
    go_wp2_with fail
    go_ret
    exact ⟨_,rfl,by rw [HT.out,HM.out,HM2.out,if_neg hx];exact HV.out.take hm,rfl⟩
theorem d5cmp_any (a0 b0:List Nat) (va0 vb0:Value) (w:World) (ha0:Num .u32 w va0 a0) (hb0:Num .u32 w vb0 b0) :
  Calls Tryz.prog 122 #[va0,vb0] w fun e w'=>e=.returned (.int .i64 (cmpN (val16 a0) (val16 b0)))∧Fr NoB w w':=by
 have HTA:=Lib.hid (d5trim_any a0 va0 w ha0)
 have HTB:=Lib.hid (d5trim_any b0 vb0 w hb0)
 have hva:=val16_trim a0
 have hvb:=val16_trim b0
 have ta:=trim_top a0
 have tb:=trim_top b0
 rw [← hva,← hvb]
 clear ha0 hb0 hva hvb
 generalize trimD a0=a at *
 generalize trimD b0=b at *
 obtain ⟨res,hres⟩:∃ r,r=cmpN (val16 a) (val16 b):=⟨_,rfl⟩
 rw [← hres]
 go_enter Tryz.func122,Tryz.ntmps122
 go_upto_region 2 with (first|(go_at_call 169;((with_reducible refine HTA.out.mono ?_);rintro e w1 ⟨va,rfl,ha,rfl⟩))|(go_at_call 169;((with_reducible refine HTB.out.mono ?_);rintro e w2 ⟨vb,rfl,hb,rfl⟩)))
 obtain ⟨w,hw⟩:∃ x,x=w2:=⟨_,rfl⟩
 subst hw
 clear HTA HTB
 obtain ⟨aa,ca,rfl⟩:=ha.sl
 obtain ⟨ab,cb,rfl⟩:=hb.sl
 have hla:=ha.2.1
 have hlb:=hb.2.1
 rcases Nat.lt_trichotomy a.length b.length with hl|hl|hl
 ·have HR:Hid (res = -1):=Lib.hid (by rw [hres];unfold cmpN;rw [if_pos (len_lt tb ha.1 hl)])
  have k1:(a.length:Int)<b.length:=by omega
  have k9:¬ (a.length:Int)=b.length:=by omega
  clear ha hb ta tb hl hres
  go_wp2_with fail
  go_ret
  exact ⟨by rw [HR.out];rfl,Fr.refl _ _⟩
 ·have HA:=Lib.hid ha
  have HB:=Lib.hid hb
  have k1:¬ (a.length:Int)<b.length:=by omega
  have k2:¬ (b.length:Int)<a.length:=by omega
  have HL:Hid (a.length=b.length):=Lib.hid hl
  have k9:(a.length:Int)=b.length:=by omega
  have HRS:=Lib.hid hres
  clear ha hb ta tb hl hres
  go_wp2_with fail
  go_loopw [5] (fun v wr=>∃ (m:Nat) (z:Int),m≤a.length∧v=.int .i64 z∧Hid (z=(m:Int) - 1)∧Hid (a.drop m=b.drop m)∧Fr NoB w wr) (fun v _=>(intOf v+1).toNat)
  case atStart=>exact ⟨a.length,_,Nat.le_refl _,rfl,Lib.hid (by omega),Lib.hid (by rw [List.drop_length,HL.out,List.drop_length]),Fr.refl _ _⟩
  case round=>
   obtain ⟨m,z,hm,rfl,HZ,HD,hf⟩:=hrel
   have hz:=HZ.out
   by_cases h0:m=0
   ·subst h0
    have k3:z<0:=by omega
    have HR:Hid (res=0):=Lib.hid (by
     rw [HRS.out]
     have h9:a=b:=by simpa using HD.out
     unfold cmpN;rw [h9,if_neg (Nat.lt_irrefl _),if_neg (Nat.lt_irrefl _)])
    clear hz
    go_wp2_with fail
    go_ret
    exact ⟨by rw [HR.out];rfl,hf⟩
   ·obtain ⟨j,hj⟩:∃ j,j=m - 1:=⟨_,rfl⟩
    obtain rfl:z=(j:Int):=by omega
    have HM:Hid (m=j+1):=Lib.hid (by omega)
    have hjl:j<a.length:=by omega
    have hjb:j<b.length:=by have:=HL.out;omega
    have k0:¬ (j:Int)<0:=by omega
    have k3:(0:Int)≤j:=by omega
    have k4:(j:Int)<a.length:=by omega
    have k5:(j:Int)<b.length:=by omega
    obtain ⟨g,o,rfl,hlc,hc1⟩:=HA.out.at_ hf (by omega)
    obtain ⟨g2,o2,rfl,hlc2,hc2⟩:=HB.out.at_ hf (by omega)
    have d0:=hc1 j hjl
    have d1:=hc2 j hjb
    have hxl:=HA.out.1.at j
    have hyl:=HB.out.1.at j
    have HD1:Hid (a.drop (j+1)=b.drop (j+1)):=Lib.hid (by rw [← HM.out];exact HD.out)
    have HL1:Hid (a.getD j 0<b.getD j 0→res = -1):=Lib.hid (fun h=>by
     rw [HRS.out];unfold cmpN;rw [if_pos (top_lt HA.out.1 HL.out hjl HD1.out h)])
    have HG1:Hid (b.getD j 0<a.getD j 0→res=1):=Lib.hid (fun h=>by
     rw [HRS.out]
     have h9:=top_lt HB.out.1 HL.out.symm hjb HD1.out.symm h
     unfold cmpN;rw [if_neg (by omega),if_pos h9])
    have HE1:Hid (a.getD j 0=b.getD j 0→a.drop j=b.drop j):=Lib.hid (fun h=>drop_step HL.out hjl HD1.out h)
    clear hc1 hc2 hj hz
    generalize a.getD j 0=x at *
    generalize b.getD j 0=y at *
    rcases Nat.lt_trichotomy x y with h|h|h
    ·have e1:(x:Int)<y:=by omega
     have HR:=Lib.hid (HL1.out h)
     go_wp2_with fail
     go_quiet (fail)
     go_wp2_with fail
     go_ret
     exact ⟨by rw [HR.out];rfl,hf.drewN _⟩
    ·have e1:¬ (x:Int)<y:=by omega
     have e2:¬ (y:Int)<x:=by omega
     have HQ:=Lib.hid (HE1.out h)
     go_wp2_with fail
     go_quiet (fail)
     go_wp2_with fail
     go_quiet (fail)
     go_wp2_with fail
     go_roundw
     case rel=>exact ⟨j,_,by omega,rfl,Lib.hid rfl,HQ,hf.drewN _⟩
     case measure=>(simp [intOf]<;>omega)
    ·have e1:¬ (x:Int)<y:=by omega
     have e2:(y:Int)<x:=by omega
     have HR:=Lib.hid (HG1.out h)
     go_wp2_with fail
     go_quiet (fail)
     go_wp2_with fail
     go_quiet (fail)
     go_wp2_with fail
     go_ret
     exact ⟨by rw [HR.out];rfl,(hf.drewN _).drewN _⟩
 ·have HR:Hid (res=1):=Lib.hid (by
   rw [hres]
   have:=len_lt ta hb.1 hl
   unfold cmpN;rw [if_neg (by omega),if_pos this])
  have k1:¬ (a.length:Int)<b.length:=by omega
  have k2:(b.length:Int)<a.length:=by omega
  have k9:¬ (a.length:Int)=b.length:=by omega
  clear ha hb ta tb hl hres
  go_wp2_with fail
  go_ret
  exact ⟨by rw [HR.out];rfl,Fr.refl _ _⟩
def UR (lo:Nat) (w:World) (v:Value) (l:List Nat):Prop:=w.ownsRow lo 155 1 v l.length (l.map (dV .u32))
theorem UR.fr {lo:Nat} {w w':World} {v:Value} {l:List Nat} (h:UR lo w v l) (f:Fr NoB w w'):UR lo w' v l:=Fr.row f h (fun _ _ e=>e)
theorem UR.grown {lo:Nat} {w0 w w':World} {v:Value} {l:List Nat} (h:UR lo w v l) (f:Fr NoB w0 w) (hg:w.grownBy w' v.ownBlock) (hlo:w0.heap.size≤lo):Fr NoB w0 w':=
 f.grown hg (fun j hj hlt=>absurd (World.ownsRow.lt h j hj).1 (by omega))
theorem UR.new (w:World):UR w.heap.size (w.alloc (.cells #[] 155)) (.slice (some ⟨w.heap.size,0,none⟩) 0 0) []:=
 ⟨by simp,Or.inr ⟨w.heap.size,0,#[],rfl,Nat.le_refl _,Blk.new w _ _,Nat.le_refl _,by unfold maxLen;omega,rfl,rfl⟩⟩
theorem UR.num {lo:Nat} {w:World} {v:Value} {l:List Nat} (h:UR lo w v l) (h1:In16 l) (h2:l.length≤33554432):Num .u32 w v l:=by
 refine ⟨h1,h2,?_⟩
 have hc:=@World.ownsRow.cells _ _ _ _ _ _ _ h
 rcases h.2 with ⟨e,h0⟩|⟨g,cap,cur,rfl,hg,hh,hn,_⟩
 ·have:l=[]:=List.eq_nil_of_length_eq_zero h0
  subst this
  exact Or.inl ⟨rfl,none,0,e⟩
 ·refine Or.inr ⟨g,0,cap,rfl,hn,lt_of_block hh,fun i x hx => ?_⟩
  have:=hc (g:=g) rfl i (dV .u32 x) (by rw [List.getElem?_map,hx];rfl)
  rwa [add_at] at this
theorem ur_one {ops:Array Oper} {rest:List Oper} {o:Oper} {a:Act} {Q:Exit→Act→World→Prop} {w:World} (hgd:o.guard=none) (sl x:Operand)
  (ho:o.op=.call { callee:=.builtin .append,args := #[sl,x],argTypes := #[118,118] }) (lo:Nat) (v:Value) (l:List Nat) (hs:a.eval sl=v) (hown:UR lo w v l) (g:Nat) (n:Nat) (hx:a.eval x=.slice (some ⟨g,0,none⟩) 1 1)
  (hc:w.cell? ⟨g,0,none⟩=some (dV .u32 n)) (hsz:l.length≤4398046511104) (hlo:lo≤w.heap.size)
  (h:∀ v' w',UR lo w' v' (l++[n])→w.grownBy w' v.ownBlock→wpList Tryz.prog ops Q rest (a.put o.dst v') w'):wpList Tryz.prog ops Q (o::rest) a w:=by
 obtain ⟨i0,hi0,hz0,hz1,hz2⟩:=info_parts info_u32
 refine wpList_append_own w hgd sl x 118 ho lo 155 i0 (.int .u32 0) 1 4 Tryz.underlying118 hi0 hz0 hz1 hz2 rfl (by decide) v l.length (l.map (dV .u32)) hs hown ⟨g,0,none⟩ 1 1 [dV .u32 n] hx (by simp) (fun j u hu => ?_) (fun u hu => ?_) (by unfold maxLen;omega) (by omega) hlo (fun v' w' h1 h2 _=>h v' w' ?_ h2)
 ·obtain ⟨hj,rfl⟩:j=0∧u=dV .u32 n:=by
   cases j with
   | zero=>simp at hu;exact ⟨rfl,hu.symm⟩
   | succ j=>simp at hu
  rw [add_at,hj];exact hc
 ·rw [List.mem_singleton] at hu;subst hu;rfl
 ·unfold UR
  simpa using h1
theorem one_u32 (w:World) (n:Int):(w.alloc (.cells #[.int .u32 n] 155)).cell? ⟨w.heap.size,0,none⟩=some (.int .u32 n):=by
 rw [World.cell?_alloc_mark];rfl
def NumIs (w:World) (n:Nat) (e:Ending) (w':World):Prop:=∃ v l,e=.returned v∧Num .u32 w' v l∧Top l∧val16 l=n∧Fr NoB w w'
theorem getD_none {l:List Nat} {i:Nat} (h:¬ i<l.length):l.getD i 0=0:=by
 rw [List.getD_eq_getElem?_getD,List.getElem?_eq_none (by omega)];rfl
theorem d5add_any (a b:List Nat) (va vb:Value) (w:World) (ha:Num .u32 w va a) (hb:Num .u32 w vb b) (hla:a.length≤1000000) (hlb:b.length≤1000000) :
  Calls Tryz.prog 203 #[va,vb] w (NumIs w (val16 a+val16 b)):=by
 obtain ⟨aa,ca,rfl⟩:=ha.sl
 obtain ⟨ab,cb,rfl⟩:=hb.sl
 have HA:=Lib.hid ha
 have HB:=Lib.hid hb
 clear ha hb
 go_enter Tryz.func203,Tryz.ntmps203
 go_upto_region 2 with fail
 have ur0:=UR.new w
 have f0:Fr NoB w (w.alloc (.cells #[] 155)):=(Fr.refl _ _).alloc _
 generalize w.alloc (.cells #[] 155)=W at *
 go_wp2_with fail
 go_loopw [5,6,7] (fun v5 v6 v7 wr=>∃ (i c:Nat) (out:List Nat),(i≤a.length∨i≤b.length)∧v7=.int .i64 i∧v6=dV .u32 c∧c≤1∧Hid (out.length=i)∧In16 out∧UR w.heap.size wr v5 out∧Hid (val16 out+c*65536 ^ i=val16 (a.take i)+val16 (b.take i))∧Fr NoB w wr) (fun _ _ v7 _=>(a.length+b.length) - (intOf v7).toNat)
 case atStart=>exact ⟨0,0,[],Or.inl (Nat.zero_le _),rfl,rfl,Nat.zero_le _,Lib.hid rfl,(fun x hx=>by simp at hx),ur0,Lib.hid rfl,f0⟩
 case round=>
  clear ur0 f0
  obtain ⟨i,c,out,hi,rfl,rfl,hc,HL,hin,hu,HV,hf⟩:=hrel
  have k0:(0:Int)≤i:=by omega
  have hws:=hf.size
  have hib:i≤1000000:=by omega
  have hol:out.length≤1000000:=by rw [HL.out];exact hib
  obtain ⟨x,hx⟩:∃ x,x=a.getD i 0:=⟨_,rfl⟩
  obtain ⟨y,hy⟩:∃ y,y=b.getD i 0:=⟨_,rfl⟩
  have hxl:x<65536:=by rw [hx];exact HA.out.1.at i
  have hyl:y<65536:=by rw [hy];exact HB.out.1.at i
  obtain ⟨q,hq⟩:∃ q,q=c+x+y:=⟨_,rfl⟩
  obtain ⟨lo,hlo⟩:∃ r,r=q % 65536:=⟨_,rfl⟩
  obtain ⟨hi2,hhi⟩:∃ r,r=q / 65536:=⟨_,rfl⟩
  have HST:Hid (val16 (out++[lo])+hi2*65536 ^ (i+1)=val16 (a.take (i+1))+val16 (b.take (i+1))):=Lib.hid (by rw [hlo,hhi];exact add_step16 HL.out HV.out (by rw [hq,hx,hy]))
  have HX:Hid (x=a.getD i 0):=Lib.hid hx
  have HY:Hid (y=b.getD i 0):=Lib.hid hy
  have e1:bits .and .u32 (q:Int) 65535=(lo:Int):=by rw [low_u32 q (by omega),hlo]
  have e2:(q:Int) / 65536=(hi2:Int):=by omega
  have hlo2:lo<65536:=by omega
  have hhi2:hi2≤1:=by omega
  have HIN:Hid (In16 (out++[lo])):=Lib.hid (hin.snoc hlo2)
  have HOL:Hid ((out++[lo]).length=i+1):=Lib.hid (by rw [List.length_append,HL.out];rfl)
  have fA:Fr NoB wr (wr.alloc (.cells #[.int .u32 (lo:Int)] 155)):=(Fr.refl _ _).alloc _
  have hA:=hu.fr fA
  by_cases h1:i<a.length
  ·have k1:(i:Int)<a.length:=by omega
   obtain ⟨g,o,rfl,hlc,hcell⟩:=HA.out.at_ hf (by omega)
   have d0:wr.cell? ⟨g,o+i,none⟩=some (dV .u32 x):=by rw [hx];exact hcell i h1
   clear hcell
   by_cases h2:i<b.length
   ·have k2:(i:Int)<b.length:=by omega
    obtain ⟨g2,o2,rfl,hlc2,hcell⟩:=HB.out.at_ hf (by omega)
    have d1:wr.cell? ⟨g2,o2+i,none⟩=some (dV .u32 y):=by rw [hy];exact hcell i h2
    have s1:(c:Int)+(x:Int)+(y:Int)=(q:Int):=by omega
    clear hcell hx hy hq hlo hhi
    go_wp2_with (at_builtin;go_loud (refine ur_one rfl _ _ rfl w.heap.size u5 out rfl hA wr.heap.size lo rfl (one_u32 wr _) (by omega) (by simp<;>omega) ?_;intro v4 w4 hown4 hgr))
    go_roundw
    case rel=>exact ⟨i+1,hi2,_,by omega,by simp,rfl,hhi2,HOL,HIN.out,hown4,HST,hA.grown (hf.trans fA) hgr (Nat.le_refl _)⟩
    case measure=>(simp [intOf]<;>omega)
   ·have k2:¬ (i:Int)<b.length:=by omega
    have hy0:y=0:=by rw [hy];exact getD_none h2
    have s1:(c:Int)+(x:Int)=(q:Int):=by omega
    clear hx hy hq hlo hhi hy0
    go_wp2_with (at_builtin;go_loud (refine ur_one rfl _ _ rfl w.heap.size u5 out rfl hA wr.heap.size lo rfl (one_u32 wr _) (by omega) (by simp<;>omega) ?_;intro v4 w4 hown4 hgr))
    go_roundw
    case rel=>exact ⟨i+1,hi2,_,by omega,by simp,rfl,hhi2,HOL,HIN.out,hown4,HST,hA.grown (hf.trans fA) hgr (Nat.le_refl _)⟩
    case measure=>(simp [intOf]<;>omega)
  ·have k1:¬ (i:Int)<a.length:=by omega
   have hx0:x=0:=by rw [hx];exact getD_none h1
   by_cases h2:i<b.length
   ·have k2:(i:Int)<b.length:=by omega
    obtain ⟨g2,o2,rfl,hlc2,hcell⟩:=HB.out.at_ hf (by omega)
    have d1:wr.cell? ⟨g2,o2+i,none⟩=some (dV .u32 y):=by rw [hy];exact hcell i h2
    have s1:(c:Int)+(y:Int)=(q:Int):=by omega
    clear hcell hx hy hq hlo hhi hx0
    go_wp2_with (at_builtin;go_loud (refine ur_one rfl _ _ rfl w.heap.size u5 out rfl hA wr.heap.size lo rfl (one_u32 wr _) (by omega) (by simp<;>omega) ?_;intro v4 w4 hown4 hgr))
    go_roundw
    case rel=>exact ⟨i+1,hi2,_,by omega,by simp,rfl,hhi2,HOL,HIN.out,hown4,HST,hA.grown (hf.trans fA) hgr (Nat.le_refl _)⟩
    case measure=>(simp [intOf]<;>omega)
   ·have k2:¬ (i:Int)<b.length:=by omega
    have HFIN:Hid (val16 (out++[c])=val16 a+val16 b):=Lib.hid (by
     have h9:=HV.out
     rw [List.take_of_length_le (by omega),List.take_of_length_le (by omega)] at h9
     rw [val16_snoc,HL.out,h9])
    have hin2:In16 (out++[c]):=hin.snoc (by omega)
    have fC:Fr NoB wr (wr.alloc (.cells #[.int .u32 (c:Int)] 155)):=(Fr.refl _ _).alloc _
    have hC:=hu.fr fC
    have HTR:Hid (∀ v' w',UR w.heap.size w' v' (out++[c])→Calls Tryz.prog 169 #[v'] w' fun e w''=>∃ v'',e=.returned v''∧Num .u32 w' v'' (trimD (out++[c]))∧w''=w'):=Lib.hid (fun v' w' h=>d5trim_any _ _ _ (h.num hin2 (by rw [List.length_append,HL.out];simp;omega)))
    clear hx hy hq hlo hhi hx0 HST e1 e2 HIN HOL fA hA HX HY
    go_wp2_with (first|(at_builtin;go_loud (refine ur_one rfl _ _ rfl w.heap.size u5 out rfl hC wr.heap.size c rfl (one_u32 wr _) (by omega) (by simp<;>omega) ?_;intro v4 w4 hown4 hgr))|(go_at_call 169;((with_reducible refine (HTR.out _ _ hown4).mono ?_);rintro e w5 ⟨v5,rfl,h5,rfl⟩)))
    go_ret
    exact ⟨_,_,rfl,h5,trim_top _,by rw [val16_trim];exact HFIN.out,hC.grown (hf.trans fC) hgr (Nat.le_refl _)⟩
theorem d5sub_any (a b:List Nat) (va vb:Value) (w:World) (ha:Num .u32 w va a) (hb:Num .u32 w vb b) (hla:a.length≤1000000) (hlb:b.length≤1000000) (hle:val16 b≤val16 a) :
  Calls Tryz.prog 204 #[va,vb] w (NumIs w (val16 a - val16 b)):=by
 obtain ⟨aa,ca,rfl⟩:=ha.sl
 obtain ⟨ab,cb,rfl⟩:=hb.sl
 have HA:=Lib.hid ha
 have HB:=Lib.hid hb
 have HLE:=Lib.hid hle
 clear ha hb hle
 go_enter Tryz.func204,Tryz.ntmps204
 go_upto_region 2 with fail
 have ur0:=UR.new w
 have f0:Fr NoB w (w.alloc (.cells #[] 155)):=(Fr.refl _ _).alloc _
 generalize w.alloc (.cells #[] 155)=W at *
 go_wp2_with fail
 go_loopw [5,6,7] (fun v5 v6 v7 wr=>∃ (i c:Nat) (out:List Nat),i≤a.length∧v7=.int .i64 i∧v6=dV .u32 c∧c≤1∧Hid (out.length=i)∧In16 out∧UR w.heap.size wr v5 out∧Hid (val16 out+val16 (b.take i)=val16 (a.take i)+c*65536 ^ i)∧Fr NoB w wr) (fun _ _ v7 _=>a.length - (intOf v7).toNat)
 case atStart=>exact ⟨0,0,[],Nat.zero_le _,rfl,rfl,Nat.zero_le _,Lib.hid rfl,(fun x hx=>by simp at hx),ur0,Lib.hid rfl,f0⟩
 case round=>
  clear ur0 f0
  obtain ⟨i,c,out,hi,rfl,rfl,hc,HL,hin,hu,HV,hf⟩:=hrel
  have k0:(0:Int)≤i:=by omega
  have hws:=hf.size
  have hol:out.length≤1000000:=by rw [HL.out];omega
  by_cases h1:i<a.length
  ·have k1:(i:Int)<a.length:=by omega
   obtain ⟨x,hx⟩:∃ x,x=a.getD i 0:=⟨_,rfl⟩
   obtain ⟨y,hy⟩:∃ y,y=b.getD i 0:=⟨_,rfl⟩
   have hxl:x<65536:=by rw [hx];exact HA.out.1.at i
   have hyl:y<65536:=by rw [hy];exact HB.out.1.at i
   obtain ⟨p,hp⟩:∃ p,p=65536+x - c:=⟨_,rfl⟩
   obtain ⟨q,hq⟩:∃ q,q=p - y:=⟨_,rfl⟩
   obtain ⟨lo,hlo⟩:∃ r,r=q % 65536:=⟨_,rfl⟩
   obtain ⟨hi2,hhi⟩:∃ r,r=q / 65536:=⟨_,rfl⟩
   obtain ⟨bo,hbb⟩:∃ r,r=1 - hi2:=⟨_,rfl⟩
   have HST:Hid (val16 (out++[lo])+val16 (b.take (i+1))=val16 (a.take (i+1))+bo*65536 ^ (i+1)):=Lib.hid (by rw [hlo,hbb,hhi];exact sub_step16 HL.out HV.out (by rw [← hx,← hy];omega) (by omega))
   have e1:bits .and .u32 (q:Int) 65535=(lo:Int):=by rw [low_u32 q (by omega),hlo]
   have e2:(q:Int) / 65536=(hi2:Int):=by omega
   have e3:(1:Int) - (hi2:Int)=(bo:Int):=by omega
   have s0:(65536:Int)+(x:Int) - (c:Int)=(p:Int):=by omega
   have hlo2:lo<65536:=by omega
   have hbo:bo≤1:=by omega
   have HIN:Hid (In16 (out++[lo])):=Lib.hid (hin.snoc hlo2)
   have HOL:Hid ((out++[lo]).length=i+1):=Lib.hid (by rw [List.length_append,HL.out];rfl)
   have fA:Fr NoB wr (wr.alloc (.cells #[.int .u32 (lo:Int)] 155)):=(Fr.refl _ _).alloc _
   have hA:=hu.fr fA
   obtain ⟨g,o,rfl,hlc,hcell⟩:=HA.out.at_ hf (by omega)
   have d0:wr.cell? ⟨g,o+i,none⟩=some (dV .u32 x):=by rw [hx];exact hcell i h1
   have hpl:p≤131071:=by omega
   clear hcell
   by_cases h2:i<b.length
   ·have k2:(i:Int)<b.length:=by omega
    obtain ⟨g2,o2,rfl,hlc2,hcell⟩:=HB.out.at_ hf (by omega)
    have d1:wr.cell? ⟨g2,o2+i,none⟩=some (dV .u32 y):=by rw [hy];exact hcell i h2
    have s1:(p:Int) - (y:Int)=(q:Int):=by omega
    have hql:q≤131071:=by omega
    clear hcell hx hy hp hq hlo hhi hbb
    go_wp2_with (at_builtin;go_loud (refine ur_one rfl _ _ rfl w.heap.size u5 out rfl hA wr.heap.size lo rfl (one_u32 wr _) (by omega) (by simp<;>omega) ?_;intro v4 w4 hown4 hgr))
    go_roundw
    case rel=>exact ⟨i+1,bo,_,by omega,by simp,rfl,hbo,HOL,HIN.out,hown4,HST,hA.grown (hf.trans fA) hgr (Nat.le_refl _)⟩
    case measure=>(simp [intOf]<;>omega)
   ·have k2:¬ (i:Int)<b.length:=by omega
    have hy0:y=0:=by rw [hy];exact getD_none h2
    obtain rfl:q=p:=by omega
    clear hx hy hp hq hlo hhi hbb hy0
    go_wp2_with (at_builtin;go_loud (refine ur_one rfl _ _ rfl w.heap.size u5 out rfl hA wr.heap.size lo rfl (one_u32 wr _) (by omega) (by simp<;>omega) ?_;intro v4 w4 hown4 hgr))
    go_roundw
    case rel=>exact ⟨i+1,bo,_,by omega,by simp,rfl,hbo,HOL,HIN.out,hown4,HST,hA.grown (hf.trans fA) hgr (Nat.le_refl _)⟩
    case measure=>(simp [intOf]<;>omega)
  ·obtain rfl:i=a.length:=by omega
   have HFIN:Hid (val16 out=val16 a - val16 b):=Lib.hid (sub_end16 HL.out hin HA.out.1 HLE.out hc HV.out)
   have HTR:=Lib.hid (d5trim_any out u5 wr (hu.num hin (by omega)))
   have HLN:=Lib.hid hol
   clear hol
   go_wp2_with (go_at_call 169;((with_reducible refine HTR.out.mono ?_);rintro e w5 ⟨v5,rfl,h5,rfl⟩))
   go_ret
   exact ⟨_,_,rfl,h5,trim_top _,by rw [val16_trim];exact HFIN.out,hf⟩
theorem getD_set_ne {l:List Nat} {i j x:Nat} (h:i≠j):(l.set i x).getD j 0=l.getD j 0:=by
 rw [List.getD_eq_getElem?_getD,List.getD_eq_getElem?_getD,List.getElem?_set_ne h]
theorem mul_lt16 {x y:Nat} (hx:x<65536) (hy:y<65536):x*y≤4294836225:=by
 have:=Nat.mul_le_mul (show x≤65535 by omega) (show y≤65535 by omega)
 omega
theorem d5mul_any (a b:List Nat) (va vb:Value) (w:World) (ha:Num .u32 w va a) (hb:Num .u32 w vb b) (hla:a.length≤1000000) (hlb:b.length≤1000000) :
  Calls Tryz.prog 205 #[va,vb] w (NumIs w (val16 a*val16 b)):=by
 obtain ⟨aa,ca,rfl⟩:=ha.sl
 obtain ⟨ab,cb,rfl⟩:=hb.sl
 have HA:=Lib.hid ha
 have HB:=Lib.hid hb
 obtain ⟨n,hn⟩:∃ n,n=a.length+b.length:=⟨_,rfl⟩
 have hmk:=run_make_row' (P:=Tryz.prog) 118 155 (.int .u32 0) 4 Tryz.underlying118 info_u32 rfl .i64 .i64 n (by omega) (by omega)
 rw [made_one] at hmk
 have s0:(a.length:Int)+(b.length:Int)=(n:Int):=by omega
 have HN:=Lib.hid hn
 have hnb:n≤2000000:=by omega
 clear ha hb hn
 go_enter Tryz.func205,Tryz.ntmps205
 go_upto_region 2 with fail
 have f0:Fr NoB w (w.alloc (.cells (Array.replicate n (Value.int .u32 0)) 155)):=(Fr.refl _ _).alloc _
 have b0:=Blk.new w 155 (Array.replicate n (Value.int .u32 0))
 generalize w.alloc (.cells (Array.replicate n (Value.int .u32 0)) 155)=W at *
 rw [zeros_map] at b0
 clear hmk s0
 go_wp2_with fail
 go_loopw [6] (fun v6 wr=>∃ (i:Nat) (l:List Nat),i≤a.length∧v6=.int .i64 i∧In16 l∧Hid (l.length=n)∧Blk wr w.heap.size 155 (l.map (dV .u32)).toArray∧Hid (val16 l=val16 (a.take i)*val16 b)∧Hid (∀ j,i+b.length≤j→l.getD j 0=0)∧Fr NoB w wr) (fun v6 _=>a.length - (intOf v6).toNat)
 case atStart=>exact ⟨0,List.replicate n 0,Nat.zero_le _,rfl,In16.zeros n,Lib.hid (by simp),b0,Lib.hid (by rw [val16_zeros];simp [val16]),Lib.hid (fun j _=>by
  rw [List.getD_eq_getElem?_getD,List.getElem?_replicate];split<;>rfl),f0⟩
 case round=>
  clear b0 f0
  obtain ⟨i,l,hi,rfl,hin,HL,hbk,HV,HZ,hf⟩:=hrel
  have k0:(0:Int)≤i:=by omega
  by_cases h1:i<a.length
  ·have k1:(i:Int)<a.length:=by omega
   obtain ⟨x,hx⟩:∃ x,x=a.getD i 0:=⟨_,rfl⟩
   have hxl:x<65536:=by rw [hx];exact HA.out.1.at i
   have HX:=Lib.hid hx
   clear hx
   go_upto_region 6 with fail
   go_wp2_with fail
   go_loopw [7,8] (fun v7 v8 w2=>∃ (k c:Nat) (l2:List Nat),k≤b.length∧v8=.int .i64 k∧v7=dV .u64 c∧c<65536∧In16 l2∧Hid (l2.length=n)∧Blk w2 w.heap.size 155 (l2.map (dV .u32)).toArray∧Hid (val16 l2+c*65536 ^ (i+k)=val16 (a.take i)*val16 b+x*65536 ^ i*val16 (b.take k))∧Hid (∀ j,i+b.length≤j→l2.getD j 0=0)∧Fr NoB w w2) (fun _ v8 _=>b.length - (intOf v8).toNat)
   case atStart=>exact ⟨0,0,l,Nat.zero_le _,rfl,rfl,by omega,hin,HL,hbk,Lib.hid (by rw [HV.out];simp [val16]),HZ,hf⟩
   case round=>
    clear hin HL hbk HV HZ hf
    obtain ⟨k,c,l2,hk,rfl,rfl,hc,hin,HL,hbk,HV,HZ,hf⟩:=hrel
    have k2:(0:Int)≤k:=by omega
    by_cases h2:k<b.length
    ·have k3:(k:Int)<b.length:=by omega
     obtain ⟨y,hy⟩:∃ y,y=b.getD k 0:=⟨_,rfl⟩
     have hyl:y<65536:=by rw [hy];exact HB.out.1.at k
     obtain ⟨p,hp⟩:∃ p,p=i+k:=⟨_,rfl⟩
     have hpn:p<l2.length:=by rw [HL.out,HN.out];omega
     have hpn2:p<n:=by rw [← HL.out];exact hpn
     obtain ⟨z,hz⟩:∃ z,z=l2.getD p 0:=⟨_,rfl⟩
     have hzl:z<65536:=by rw [hz];exact hin.at p
     obtain ⟨m,hm⟩:∃ m,m=x*y:=⟨_,rfl⟩
     have hml:m≤4294836225:=by rw [hm];exact mul_lt16 hxl hyl
     obtain ⟨q,hq⟩:∃ q,q=c+(z+m):=⟨_,rfl⟩
     obtain ⟨lo,hlo⟩:∃ r,r=q % 65536:=⟨_,rfl⟩
     obtain ⟨hi2,hhi⟩:∃ r,r=q / 65536:=⟨_,rfl⟩
     have HST:Hid (val16 (l2.set p lo)+hi2*65536 ^ (i+(k+1))=val16 (a.take i)*val16 b+x*65536 ^ i*val16 (b.take (k+1))):=Lib.hid (by
      rw [hlo,hhi,hp]
      exact mul_step16 (by rw [← hp];exact hpn) HV.out (by rw [hq,hz,hm,hy,hp]))
     have e0:(x:Int)*(y:Int)=(m:Int):=by rw [hm];simp
     have e1:bits .and .u64 (q:Int) 65535=(lo:Int):=by rw [low_u64 q (by omega),hlo]
     have e2:(q:Int) / 65536=(hi2:Int):=by omega
     have s1:(c:Int)+((z:Int)+(m:Int))=(q:Int):=by omega
     have s2:(i:Int)+(k:Int)=(p:Int):=by omega
     have k4:(0:Int)≤p:=by omega
     have k5:(p:Int)<n:=by omega
     have hlo2:lo<65536:=by omega
     have hhi2:hi2<65536:=by omega
     have hql:q≤4294967295:=by omega
     obtain ⟨g,o,rfl,hlc,hcell⟩:=HA.out.at_ hf (by omega)
     have d0:wr.cell? ⟨g,o+i,none⟩=some (dV .u32 x):=by rw [HX.out];exact hcell i h1
     clear hcell
     obtain ⟨g2,o2,rfl,hlc2,hcell⟩:=HB.out.at_ hf (by omega)
     have d1:wr.cell? ⟨g2,o2+k,none⟩=some (dV .u32 y):=by rw [hy];exact hcell k h2
     clear hcell
     have d2:wr.cell? ⟨w.heap.size,p,none⟩=some (dV .u32 z):=by rw [hz];exact dcell hbk hpn
     have dz:=hbk.frozen p
     have HB2:=Lib.hid (fun t:Nat=>dset (hbk.drewN t) p lo)
     have HI2:=Lib.hid (hin.set p lo hlo2)
     have HF2:=Lib.hid (fun t:Nat=>(hf.drewN t).setCell_new (p:=⟨w.heap.size,p,none⟩) (Nat.le_refl _) (dV .u32 lo))
     have HL2:Hid ((l2.set p lo).length=n):=Lib.hid (by rw [List.length_set];exact HL.out)
     have HZ2:Hid (∀ j,i+b.length≤j→(l2.set p lo).getD j 0=0):=Lib.hid (fun j hj=>by rw [getD_set_ne (by omega)];exact HZ.out j hj)
     clear hy hp hz hm hq hlo hhi hin HL hbk HV HZ hf hpn
     go_wp2_with fail
     go_quiet (fail)
     go_wp2_with fail
     go_roundw
     case rel=>exact ⟨k+1,hi2,_,by omega,by simp,rfl,hhi2,HI2.out,HL2,HB2.out _,HST,HZ2,HF2.out _⟩
     case measure=>(simp [intOf]<;>omega)
    ·obtain rfl:k=b.length:=by omega
     obtain ⟨p,hp⟩:∃ p,p=i+b.length:=⟨_,rfl⟩
     have hpn:p<l2.length:=by rw [HL.out,HN.out];omega
     have hpn2:p<n:=by rw [← HL.out];exact hpn
     have HST:Hid (val16 (l2.set p c)=val16 (a.take (i+1))*val16 b):=Lib.hid (by
      rw [hp]
      exact mul_end16 (by rw [← hp];exact hpn) (HZ.out _ (Nat.le_refl _)) (by rw [← HX.out];exact HV.out))
     have s2:(i:Int)+(b.length:Int)=(p:Int):=by omega
     have k4:(0:Int)≤p:=by omega
     have k5:(p:Int)<n:=by omega
     have d2:=dcell hbk hpn
     have dz:=hbk.frozen p
     have HB2:=Lib.hid (dset hbk p c)
     have HI2:=Lib.hid (hin.set p c hc)
     have HF2:=Lib.hid (hf.setCell_new (p:=⟨w.heap.size,p,none⟩) (Nat.le_refl _) (dV .u32 c))
     have HL2:Hid ((l2.set p c).length=n):=Lib.hid (by rw [List.length_set];exact HL.out)
     have HZ2:Hid (∀ j,i+1+b.length≤j→(l2.set p c).getD j 0=0):=Lib.hid (fun j hj=>by rw [getD_set_ne (by omega)];exact HZ.out j (by omega))
     clear hp hin HL hbk HV HZ hf hpn
     go_wp2_with fail
     go_roundw
     case rel=>exact ⟨i+1,_,by omega,by simp,HI2.out,HL2,HB2.out,HST,HZ2,HF2.out⟩
     case measure=>(simp [intOf]<;>omega)
  ·obtain rfl:i=a.length:=by omega
   have HFIN:Hid (val16 l=val16 a*val16 b):=Lib.hid (by have:=HV.out;rwa [List.take_length] at this)
   have hll:l.length=n:=HL.out
   have HTR:=Lib.hid (d5trim_any l (.slice (some ⟨w.heap.size,0,none⟩) n n) wr (by
    have:=Num.of_blk (c:=n) hbk hin (by omega) (by omega)
    rwa [hll] at this))
   clear hll hbk
   go_wp2_with (go_at_call 169;((with_reducible refine HTR.out.mono ?_);rintro e w5 ⟨v5,rfl,h5,rfl⟩))
   go_ret
   exact ⟨_,_,rfl,h5,trim_top _,by rw [val16_trim];exact HFIN.out,hf⟩
theorem getD_ext {a b:List Nat} (hl:a.length=b.length) (h:∀ j,j<a.length→a.getD j 0=b.getD j 0):a=b:=by
 apply List.ext_getElem hl
 intro j h1 h2
 have:=h j h1
 rwa [List.getD_eq_getElem?_getD,List.getD_eq_getElem?_getD,List.getElem?_eq_getElem h1,List.getElem?_eq_getElem h2] at this
theorem getD_set_eq {l:List Nat} {i x:Nat} (h:i<l.length):(l.set i x).getD i 0=x:=by
 rw [List.getD_eq_getElem?_getD,List.getElem?_set_self h];rfl
theorem shift_val {r r2:List Nat} {n x:Nat} (hr:r.length=n+1) (h2:r2.length=n+1) (h0:r2.getD 0 0=x) (hs:∀ j,j<n→r2.getD (j+1) 0=r.getD j 0) (hn:r.getD n 0=0):val16 r2=x+65536*val16 r:=by
 have e:r2=x::r.take n:=by
  refine getD_ext (by simp;omega) (fun j hj => ?_)
  cases j with
  | zero=>rw [h0];rfl
  | succ j=>
   rw [hs j (by omega),List.getD_cons_succ,List.getD_eq_getElem?_getD,List.getD_eq_getElem?_getD,List.getElem?_take_of_lt (by omega)]
 have e2:=val16_take r n (by omega)
 rw [hn,Nat.zero_mul,← hr,List.take_length] at e2
 rw [e,val16]
 omega
theorem top_zero {r:List Nat} {n V:Nat} (h:val16 r<V) (hV:V<65536 ^ n):r.getD n 0=0:=by
 have h1:=digit_le r n
 refine Decidable.byContradiction fun hc => ?_
 have h2:1*65536 ^ n≤r.getD n 0*65536 ^ n:=Nat.mul_le_mul_right _ (by omega)
 omega
theorem take_zero {r:List Nat} {n:Nat} (hr:r.length=n+1) (h:r.getD n 0=0):val16 (r.take n)=val16 r:=by
 have e2:=val16_take r n (by omega)
 rw [h,Nat.zero_mul,← hr,List.take_length] at e2
 omega
theorem drop_getD {a b:List Nat} {k:Nat} (h:a.drop k=b.drop k):a.getD k 0=b.getD k 0:=by
 have h2:=congrArg (fun l:List Nat=>l[0]?) h
 simp only [List.getElem?_drop,Nat.add_zero] at h2
 rw [List.getD_eq_getElem?_getD,List.getD_eq_getElem?_getD,h2]
def mem16 (w:World) (g:Nat):Nat:=match w.heap[g]? with
 | some (.cells cs _ _)=>val16 (cs.toList.map (fun v=>(intOf v).toNat))
 | _=>0
theorem mem16_blk {w:World} {g:Nat} {t:TypeId} {l:List Nat} (h:Blk w g t (l.map (dV .u32)).toArray):mem16 w g=val16 l:=by
 have h2:w.heap[g]?=some (.cells (l.map (dV .u32)).toArray t (0,0)):=h
 unfold mem16
 rw [h2]
 simp only [List.map_map]
 congr 1
 conv=>rhs;rw [← List.map_id l]
 refine List.map_congr_left (fun x _ => ?_)
 simp [intOf]
theorem d5left_any (a m:List Nat) (va vm:Value) (w:World) (ha:Num .u32 w va a) (hm:Num .u32 w vm m) (hla:a.length≤1000000) (hlm:m.length≤1000) (hV:0<val16 m) :
  Calls Tryz.prog 202 #[va,vm] w (NumIs w (val16 a % val16 m)):=by
 obtain ⟨aa,ca,rfl⟩:=ha.sl
 obtain ⟨am,cm,rfl⟩:=hm.sl
 have HA:=Lib.hid ha
 have HM:=Lib.hid hm
 obtain ⟨n,hn⟩:∃ n,n=m.length:=⟨_,rfl⟩
 obtain ⟨n1,hn1⟩:∃ n1,n1=n+1:=⟨_,rfl⟩
 have hmk:=run_make_row' (P:=Tryz.prog) 118 155 (.int .u32 0) 4 Tryz.underlying118 info_u32 rfl .i64 .i64 n1 (by omega) (by omega)
 rw [made_one] at hmk
 have s0:(n:Int)+1=(n1:Int):=by omega
 have HVn:Hid (val16 m<65536 ^ n):=Lib.hid (by rw [hn];exact val16_lt hm.1)
 have HN1:=Lib.hid hn1
 have HN:=Lib.hid hn
 have hnb:n≤1000:=by omega
 obtain ⟨V,hVV⟩:∃ V,V=val16 m:=⟨_,rfl⟩
 rw [← hVV] at hV HVn ⊢
 have HV:=Lib.hid hVV
 rw [← hn]
 clear ha hm hn hn1 hVV
 go_enter Tryz.func202,Tryz.ntmps202
 go_upto_region 3 with fail
 have f0:Fr NoB w (w.alloc (.cells (Array.replicate n1 (Value.int .u32 0)) 155)):=(Fr.refl _ _).alloc _
 have b0:=Blk.new w 155 (Array.replicate n1 (Value.int .u32 0))
 generalize w.alloc (.cells (Array.replicate n1 (Value.int .u32 0)) 155)=W at *
 rw [zeros_map] at b0
 clear hmk s0
 go_wp2_with fail
 go_loopw [7] (fun v7 wr=>∃ (M:Nat) (z:Int) (r:List Nat),M≤a.length∧v7=.int .i64 z∧Hid (z=(M:Int) - 1)∧In16 r∧Hid (r.length=n+1)∧Blk wr w.heap.size 155 (r.map (dV .u32)).toArray∧Hid (val16 r=val16 (a.drop M) % V)∧Fr NoB w wr) (fun v7 _=>(intOf v7+1).toNat)
 case atStart=>exact ⟨a.length,_,List.replicate n1 0,Nat.le_refl _,rfl,Lib.hid rfl,In16.zeros n1,Lib.hid (by simp [HN1.out]),b0,Lib.hid (by rw [val16_zeros,List.drop_length,val16,Nat.zero_mod]),f0⟩
 case round=>
  clear b0 f0
  obtain ⟨M,z,r,hM,rfl,HZ,hin,HL,hbk,HR,hf⟩:=hrel
  have hz:=HZ.out
  by_cases h0:M=0
  ·subst h0
   have k1:z<0:=by omega
   have hll:r.length=n1:=by rw [HL.out,HN1.out]
   have HTR:=Lib.hid (d5trim_any r (.slice (some ⟨w.heap.size,0,none⟩) n1 n1) wr (by
    have:=Num.of_blk (c:=n1) hbk hin (by have:=HN1.out;omega) (by omega)
    rwa [hll] at this))
   have HFIN:Hid (val16 r=val16 a % V):=Lib.hid (by have:=HR.out;rwa [List.drop_zero] at this)
   clear hll hz hbk
   go_wp2_with (go_at_call 169;((with_reducible refine HTR.out.mono ?_);rintro e w5 ⟨v5,rfl,h5,rfl⟩))
   go_ret
   exact ⟨_,_,rfl,h5,trim_top _,by rw [val16_trim];exact HFIN.out,hf⟩
  ·obtain ⟨j,hj⟩:∃ j,j=M - 1:=⟨_,rfl⟩
   obtain rfl:z=(j:Int):=by omega
   have HM1:Hid (M=j+1):=Lib.hid (by omega)
   have hjl:j<a.length:=by omega
   have HRL:Hid (val16 r<V):=Lib.hid (by rw [HR.out];exact Nat.mod_lt _ hV)
   have HR0:Hid (r.getD n 0=0):=Lib.hid (top_zero HRL.out HVn.out)
   obtain ⟨x,hx⟩:∃ x,x=a.getD j 0:=⟨_,rfl⟩
   have HX:=Lib.hid hx
   have hxl:x<65536:=by rw [hx];exact HA.out.1.at j
   have HRV:Hid ((x+65536*val16 r) % V=val16 (a.drop j) % V):=Lib.hid (by
    have e:val16 (a.drop j)=x+65536*val16 (a.drop M):=by
     rw [HM1.out,List.drop_eq_getElem_cons hjl,val16,hx,List.getD_eq_getElem?_getD,List.getElem?_eq_getElem hjl];rfl
    rw [e,HR.out,Nat.add_mod,Nat.mul_mod,Nat.mod_mod,← Nat.mul_mod,← Nat.add_mod])
   have hRin:=Lib.hid hin
   have k0:(0:Int)≤j:=by omega
   have k1:(j:Int)<a.length:=by omega
   clear hz hj HR hx h0
   go_upto_region 6 with fail
   go_wp2_with fail
   go_loopw [8] (fun v8 w2=>∃ (k:Nat) (r2:List Nat),k≤n∧v8=.int .i64 k∧In16 r2∧Hid (r2.length=n+1)∧Blk w2 w.heap.size 155 (r2.map (dV .u32)).toArray∧Hid ((∀ i,i≤k→r2.getD i 0=r.getD i 0)∧∀ i,k≤i→i<n→r2.getD (i+1) 0=r.getD i 0)∧Fr NoB w w2) (fun v8 _=>(intOf v8).toNat)
   case atStart=>exact ⟨n,r,Nat.le_refl _,rfl,hin,HL,hbk,Lib.hid ⟨fun i _=>rfl,fun i h1 h2=>by omega⟩,hf⟩
   case round=>
    clear hin hbk hf
    obtain ⟨k,r2,hk,rfl,hin,HL2,hbk,HS,hf⟩:=hrel
    by_cases hk0:k=0
    ·subst hk0
     obtain ⟨g,o,rfl,hlc,hcell⟩:=HA.out.at_ hf (by omega)
     have d0:wr.cell? ⟨g,o+j,none⟩=some (dV .u32 x):=by rw [HX.out];exact hcell j hjl
     have hl0:0<r2.length:=by rw [HL2.out];omega
     have d1:=dcell hbk hl0
     have dz:=hbk.frozen 0
     have k5:(0:Int)<n1:=by have:=HN1.out;omega
     obtain ⟨r3,hr3⟩:∃ r3,r3=r2.set 0 x:=⟨_,rfl⟩
     have HB3:Hid (Blk (wr.setCell ⟨w.heap.size,0,none⟩ (dV .u32 x)) w.heap.size 155 (r3.map (dV .u32)).toArray):=Lib.hid (by rw [hr3];exact dset hbk 0 x)
     have HI3:Hid (In16 r3):=Lib.hid (by rw [hr3];exact hin.set 0 x hxl)
     have HL3:Hid (r3.length=n+1):=Lib.hid (by rw [hr3,List.length_set];exact HL2.out)
     have HV3:Hid (val16 r3 % V=val16 (a.drop j) % V):=Lib.hid (by
      have hsv:=shift_val (x:=x) (n:=n) (r:=r) (r2:=r3) HL.out HL3.out (by rw [hr3];exact getD_set_eq hl0) (fun i hi=>by rw [hr3,getD_set_ne (by omega)];exact HS.out.2 i (Nat.zero_le _) hi) HR0.out
      rw [hsv]
      exact HRV.out)
     have HF3:=Lib.hid (hf.setCell_new (p:=⟨w.heap.size,0,none⟩) (Nat.le_refl _) (dV .u32 x))
     clear hcell hr3 hin HL2 hbk HS hf hl0 HL hRin HRL HR0 HRV HX hxl
     go_wp2_with fail
     go_loopw [9] (fun v9 w3=>∃ q:List Nat,In16 q∧Hid (q.length=n+1)∧Blk w3 w.heap.size 155 (q.map (dV .u32)).toArray∧Hid (val16 q % V=val16 (a.drop j) % V)∧Fr NoB w w3) (fun _ w3=>mem16 w3 w.heap.size)
     case atStart=>exact ⟨r3,HI3.out,HL3,HB3.out,HV3,HF3.out⟩
     case round=>
      clear d0 d1 dz HB3 HI3 HL3 HV3 HF3
      obtain ⟨q,hin,HLq,hbk,HQ,hf⟩:=hrel
      obtain ⟨w3,hw3⟩:∃ x,x=wr:=⟨_,rfl⟩
      subst hw3
      have hnl:n<q.length:=by rw [HLq.out];omega
      obtain ⟨y0,hy0⟩:∃ y,y=q.getD n 0:=⟨_,rfl⟩
      have hyl0:y0<65536:=by rw [hy0];exact hin.at n
      have d0:w3.cell? ⟨w.heap.size,n,none⟩=some (dV .u32 y0):=by rw [hy0];exact dcell hbk hnl
      have k2:(0:Int)≤n:=by omega
      have k3:(n:Int)<n1:=by have:=HN1.out;omega
      have k4:(n:Int)≤n1:=by omega
      have HMEM:Hid (mem16 w3 w.heap.size=val16 q):=Lib.hid (mem16_blk hbk)
      have HQin:=Lib.hid hin
      by_cases hyz:y0=0
      ·have HQ0:Hid (val16 (q.take n)=val16 q):=Lib.hid (take_zero HLq.out (by rw [← hy0];exact hyz))
       have HC:Hid (Calls Tryz.prog 122 #[.slice (some ⟨w.heap.size,0,none⟩) n n1,.slice am n cm] w3 fun e w'=>e=.returned (.int .i64 (cmpN (val16 q) V))∧Fr NoB w3 w'):=Lib.hid (by
        have h1:Num .u32 w3 (.slice (some ⟨w.heap.size,0,none⟩) q.length n1) q:=Num.of_blk hbk hin (by rw [HLq.out];omega) (by rw [HLq.out,HN1.out];exact Nat.le_refl _)
        have h2:=Num.take (m:=n) h1 (by omega)
        have h3:=HM.out.fr hf
        rw [← HN.out] at h3
        have:=d5cmp_any _ _ _ _ w3 h2 h3
        rw [HQ0.out,← HV.out] at this
        exact this)
       obtain ⟨zc,hzc⟩:∃ z,z=cmpN (val16 q) V:=⟨_,rfl⟩
       rw [← hzc] at HC
       have HGE:=cmp_ge (val16 q) V
       rw [← hzc] at HGE
       subst hyz
       clear hy0 hzc hnl
       by_cases hlt:V≤val16 q
       ·have kz:(0:Int)≤zc:=HGE.2 hlt
        obtain ⟨t,ht⟩:∃ t,t=1:=⟨_,rfl⟩
        have ht1:1≤t:=by omega
        have htl:t<65536:=by omega
        have HTV:Hid (t*V≤val16 q):=Lib.hid (by rw [ht,Nat.one_mul];exact hlt)
        have HT1:=Lib.hid ht
        clear HGE hlt ht
        go_upto_region 12 with (go_at_call 122;((with_reducible refine HC.out.mono ?_);rintro e w1 ⟨rfl,f1⟩))
        have hb1:=f1.blk hbk (fun e=>e)
        have hf1:=hf.trans f1
        have d9:w1.cell? ⟨w.heap.size,n,none⟩=some (dV .u32 0):=(f1.cell (p:=⟨w.heap.size,n,none⟩) hbk.lt (fun e=>e)).trans d0
        clear hbk hf d0 HC
        go_upto_region 16 with fail
        go_wp2_with fail
        go_loopw [10,11] (fun v10 v11 w4=>∃ (k B:Nat) (q2:List Nat),k≤n+1∧v11=.int .i64 k∧v10=dV .u64 B∧B≤16777216∧In16 q2∧Hid (q2.length=n+1)∧Blk w4 w.heap.size 155 (q2.map (dV .u32)).toArray∧Hid (val16 (q2.take k)+t*val16 (m.take k)=val16 (q.take k)+B*65536 ^ k∧q2.drop k=q.drop k)∧Fr NoB w w4) (fun _ v11 _=>n1+1 - (intOf v11).toNat)
        case atStart=>exact ⟨0,0,q,Nat.zero_le _,rfl,rfl,Nat.zero_le _,HQin.out,HLq,hb1,Lib.hid (by simp [val16]),hf1⟩
        case round=>
         clear hb1 hf1 d9
         obtain ⟨k,B,q2,hk,rfl,rfl,hB,hin,HL2,hbk,HS,hf⟩:=hrel
         by_cases hkn:k=n+1
         ·have HFV:Hid (val16 q2=val16 q - t*V):=Lib.hid (by
           have h9:=HS.out.1
           rw [hkn] at h9
           rw [HV.out]
           exact left_end HLq.out HL2.out HN.out.symm hin (by rw [← HV.out];exact HTV.out) HQin.out h9)
          have k7:¬ (k:Int)≤n:=by omega
          have HLT:Hid (val16 q2<val16 q):=Lib.hid (by
           have h8:=HTV.out
           have h7:1*1≤t*V:=Nat.mul_le_mul ht1 hV
           rw [HFV.out];omega)
          clear hkn
          go_wp2_with fail
          go_roundw
          case rel=>first|exact ⟨q2,hin,HL2,hbk,Lib.hid (by rw [HFV.out,left_sub HTV.out];exact HQ.out),hf⟩|exact ⟨q2,hin,HL2,hbk,Lib.hid (by rw [HFV.out,left_sub HTV.out];exact HQ.out)⟩
          case measure=>(rw [mem16_blk hbk,HMEM.out];exact HLT.out)
         ·have k7:(k:Int)≤n:=by omega
          have hkl:k<q2.length:=by rw [HL2.out];omega
          have hkq:k<q.length:=by rw [HLq.out];omega
          obtain ⟨y,hy⟩:∃ y,y=m.getD k 0:=⟨_,rfl⟩
          have hyl:y<65536:=by rw [hy];exact HM.out.1.at k
          obtain ⟨u,hu⟩:∃ u,u=q2.getD k 0:=⟨_,rfl⟩
          have hul:u<65536:=by rw [hu];exact hin.at k
          have HUQ:Hid (q.getD k 0=u):=Lib.hid (by rw [hu];exact (drop_getD HS.out.2).symm)
          obtain ⟨pm,hpm⟩:∃ x,x=t*y:=⟨_,rfl⟩
          have hpl:pm≤4294836225:=by rw [hpm];exact mul_lt16 htl hyl
          obtain ⟨tk,htk⟩:∃ x,x=B+pm:=⟨_,rfl⟩
          obtain ⟨X,hX⟩:∃ x,x=u+1099511627776 - tk:=⟨_,rfl⟩
          obtain ⟨lo,hlo⟩:∃ r,r=X % 65536:=⟨_,rfl⟩
          obtain ⟨hi2,hhi⟩:∃ r,r=X / 65536:=⟨_,rfl⟩
          obtain ⟨B2,hB2⟩:∃ r,r=16777216 - hi2:=⟨_,rfl⟩
          have HST:Hid (val16 ((q2.set k lo).take (k+1))+t*val16 (m.take (k+1))=val16 (q.take (k+1))+B2*65536 ^ (k+1)∧(q2.set k lo).drop (k+1)=q.drop (k+1)):=Lib.hid (by
           rw [hlo,hB2,hhi]
           exact left_step hkq HS.out.1 HS.out.2 (by rw [HL2.out,HLq.out]) (by rw [HUQ.out,← hy,← hpm];omega) (by omega))
          have hXl:X≤1099511693311:=by omega
          have hXg:1099511627776≤X+tk:=by omega
          have htkl:tk≤4311613441:=by omega
          have e1:bits .and .u64 (X:Int) 65535=(lo:Int):=by rw [low_u64 X (by omega),hlo]
          have e2:(X:Int) / 65536=(hi2:Int):=by omega
          have e3:(16777216:Int) - (hi2:Int)=(B2:Int):=by omega
          have s1:(u:Int)+1099511627776 - (tk:Int)=(X:Int):=by omega
          have hlo2:lo<65536:=by omega
          have hB3:B2≤16777216:=by omega
          have hhl:hi2≤16777216:=by omega
          have k8:(0:Int)≤k:=by omega
          have k9:(k:Int)<n1:=by have:=HN1.out;omega
          have d2:wr.cell? ⟨w.heap.size,k,none⟩=some (dV .u32 u):=by rw [hu];exact dcell hbk hkl
          have dz:=hbk.frozen k
          have HB2:=Lib.hid (dset hbk k lo)
          have HI2:=Lib.hid (hin.set k lo hlo2)
          have HF2:=Lib.hid (hf.setCell_new (p:=⟨w.heap.size,k,none⟩) (Nat.le_refl _) (dV .u32 lo))
          have HL3:Hid ((q2.set k lo).length=n+1):=Lib.hid (by rw [List.length_set];exact HL2.out)
          by_cases hkm:k<n
          ·have k6:(k:Int)<n:=by omega
           have hpy:pm=y:=by rw [hpm,HT1.out,Nat.one_mul]
           have e4:(B:Int)+(y:Int)=(tk:Int):=by omega
           obtain ⟨g2,o2,rfl,hlc2,hcell⟩:=HM.out.at_ hf (by have:=HN.out;omega)
           have d1:wr.cell? ⟨g2,o2+k,none⟩=some (dV .u32 y):=by rw [hy];exact hcell k (by have:=HN.out;omega)
           clear hcell hpy hy hu hpm htk hX hlo hhi hB2 hin HL2 hbk HS hf hkl hkq
           go_wp2_with fail
           go_roundw
           case rel=>exact ⟨k+1,B2,_,by omega,by simp,rfl,hB3,HI2.out,HL3,HB2.out,HST,HF2.out⟩
           case measure=>(have h1:=HN1.out;simp [intOf];omega)
          ·have k6:¬ (k:Int)<n:=by omega
           have hy0:y=0:=by rw [hy];exact getD_none (by have:=HN.out;omega)
           have hpm0:pm=0:=by rw [hpm,hy0,Nat.mul_zero]
           obtain rfl:tk=B:=by omega
           clear hy hu hpm htk hX hlo hhi hB2 hin HL2 hbk HS hf hkl hkq hy0 hpm0
           go_wp2_with fail
           go_roundw
           case rel=>exact ⟨k+1,B2,_,by omega,by simp,rfl,hB3,HI2.out,HL3,HB2.out,HST,HF2.out⟩
           case measure=>(have h1:=HN1.out;simp [intOf];omega)
       ·have kz:¬ (0:Int)≤zc:=fun h=>hlt (HGE.1 h)
        have HFIN:Hid (val16 q=val16 (a.drop j) % V):=Lib.hid (by rw [← HQ.out,Nat.mod_eq_of_lt (by omega)])
        clear HGE hlt
        go_wp2_with (go_at_call 122;((with_reducible refine HC.out.mono ?_);rintro e w1 ⟨rfl,f1⟩))
        go_roundw
        case rel=>exact ⟨j,_,q,by omega,rfl,Lib.hid rfl,HQin.out,HLq,f1.blk hbk (fun e=>e),HFIN,hf.trans f1⟩
        case measure=>(have:=HM1.out;simp [intOf]<;>omega)
      ·have hyp:0<y0:=by omega
       have k5:(0:Int)<(y0:Int):=by omega
       have k6:¬ (y0:Int)=0:=by omega
       obtain ⟨t,ht⟩:∃ t,t=y0:=⟨_,rfl⟩
       have ht1:1≤t:=by omega
       have htl:t<65536:=by omega
       have HTV:Hid (t*V≤val16 q):=Lib.hid (by rw [ht,hy0,HV.out];exact left_fits HN.out.symm HM.out.1)
       subst ht
       have hb1:=hbk
       have hf1:=hf
       have d9:=d0
       clear hbk hf hy0 hyz hnl
       go_upto_region 16 with fail
       go_wp2_with fail
       go_loopw [10,11] (fun v10 v11 w4=>∃ (k B:Nat) (q2:List Nat),k≤n+1∧v11=.int .i64 k∧v10=dV .u64 B∧B≤16777216∧In16 q2∧Hid (q2.length=n+1)∧Blk w4 w.heap.size 155 (q2.map (dV .u32)).toArray∧Hid (val16 (q2.take k)+t*val16 (m.take k)=val16 (q.take k)+B*65536 ^ k∧q2.drop k=q.drop k)∧Fr NoB w w4) (fun _ v11 _=>n1+1 - (intOf v11).toNat)
       case atStart=>exact ⟨0,0,q,Nat.zero_le _,rfl,rfl,Nat.zero_le _,HQin.out,HLq,hb1,Lib.hid (by simp [val16]),hf1⟩
       case round=>
        clear hb1 hf1 d9
        obtain ⟨k,B,q2,hk,rfl,rfl,hB,hin,HL2,hbk,HS,hf⟩:=hrel
        by_cases hkn:k=n+1
        ·have HFV:Hid (val16 q2=val16 q - t*V):=Lib.hid (by
          have h9:=HS.out.1
          rw [hkn] at h9
          rw [HV.out]
          exact left_end HLq.out HL2.out HN.out.symm hin (by rw [← HV.out];exact HTV.out) HQin.out h9)
         have k7:¬ (k:Int)≤n:=by omega
         have HLT:Hid (val16 q2<val16 q):=Lib.hid (by
          have h8:=HTV.out
          have h7:1*1≤t*V:=Nat.mul_le_mul ht1 hV
          rw [HFV.out];omega)
         clear hkn
         go_wp2_with fail
         go_roundw
         case rel=>first|exact ⟨q2,hin,HL2,hbk,Lib.hid (by rw [HFV.out,left_sub HTV.out];exact HQ.out),hf⟩|exact ⟨q2,hin,HL2,hbk,Lib.hid (by rw [HFV.out,left_sub HTV.out];exact HQ.out)⟩
         case measure=>(rw [mem16_blk hbk,HMEM.out];exact HLT.out)
        ·have k7:(k:Int)≤n:=by omega
         have hkl:k<q2.length:=by rw [HL2.out];omega
         have hkq:k<q.length:=by rw [HLq.out];omega
         obtain ⟨y,hy⟩:∃ y,y=m.getD k 0:=⟨_,rfl⟩
         have hyl:y<65536:=by rw [hy];exact HM.out.1.at k
         obtain ⟨u,hu⟩:∃ u,u=q2.getD k 0:=⟨_,rfl⟩
         have hul:u<65536:=by rw [hu];exact hin.at k
         have HUQ:Hid (q.getD k 0=u):=Lib.hid (by rw [hu];exact (drop_getD HS.out.2).symm)
         obtain ⟨pm,hpm⟩:∃ x,x=t*y:=⟨_,rfl⟩
         have hpl:pm≤4294836225:=by rw [hpm];exact mul_lt16 htl hyl
         obtain ⟨tk,htk⟩:∃ x,x=B+pm:=⟨_,rfl⟩
         obtain ⟨X,hX⟩:∃ x,x=u+1099511627776 - tk:=⟨_,rfl⟩
         obtain ⟨lo,hlo⟩:∃ r,r=X % 65536:=⟨_,rfl⟩
         obtain ⟨hi2,hhi⟩:∃ r,r=X / 65536:=⟨_,rfl⟩
         obtain ⟨B2,hB2⟩:∃ r,r=16777216 - hi2:=⟨_,rfl⟩
         have HST:Hid (val16 ((q2.set k lo).take (k+1))+t*val16 (m.take (k+1))=val16 (q.take (k+1))+B2*65536 ^ (k+1)∧(q2.set k lo).drop (k+1)=q.drop (k+1)):=Lib.hid (by
          rw [hlo,hB2,hhi]
          exact left_step hkq HS.out.1 HS.out.2 (by rw [HL2.out,HLq.out]) (by rw [HUQ.out,← hy,← hpm];omega) (by omega))
         have hXl:X≤1099511693311:=by omega
         have hXg:1099511627776≤X+tk:=by omega
         have htkl:tk≤4311613441:=by omega
         have e1:bits .and .u64 (X:Int) 65535=(lo:Int):=by rw [low_u64 X (by omega),hlo]
         have e2:(X:Int) / 65536=(hi2:Int):=by omega
         have e3:(16777216:Int) - (hi2:Int)=(B2:Int):=by omega
         have s1:(u:Int)+1099511627776 - (tk:Int)=(X:Int):=by omega
         have hlo2:lo<65536:=by omega
         have hB3:B2≤16777216:=by omega
         have hhl:hi2≤16777216:=by omega
         have k8:(0:Int)≤k:=by omega
         have k9:(k:Int)<n1:=by have:=HN1.out;omega
         have d2:wr.cell? ⟨w.heap.size,k,none⟩=some (dV .u32 u):=by rw [hu];exact dcell hbk hkl
         have dz:=hbk.frozen k
         have HB2:=Lib.hid (dset hbk k lo)
         have HI2:=Lib.hid (hin.set k lo hlo2)
         have HF2:=Lib.hid (hf.setCell_new (p:=⟨w.heap.size,k,none⟩) (Nat.le_refl _) (dV .u32 lo))
         have HL3:Hid ((q2.set k lo).length=n+1):=Lib.hid (by rw [List.length_set];exact HL2.out)
         by_cases hkm:k<n
         ·have k6:(k:Int)<n:=by omega
          have e0:(t:Int)*(y:Int)=(pm:Int):=by rw [hpm];simp
          have e4:(B:Int)+(pm:Int)=(tk:Int):=by omega
          obtain ⟨g2,o2,rfl,hlc2,hcell⟩:=HM.out.at_ hf (by have:=HN.out;omega)
          have d1:wr.cell? ⟨g2,o2+k,none⟩=some (dV .u32 y):=by rw [hy];exact hcell k (by have:=HN.out;omega)
          clear hcell hy hu hpm htk hX hlo hhi hB2 hin HL2 hbk HS hf hkl hkq
          go_wp2_with fail
          go_roundw
          case rel=>exact ⟨k+1,B2,_,by omega,by simp,rfl,hB3,HI2.out,HL3,HB2.out,HST,HF2.out⟩
          case measure=>(have h1:=HN1.out;simp [intOf];omega)
         ·have k6:¬ (k:Int)<n:=by omega
          have hy0:y=0:=by rw [hy];exact getD_none (by have:=HN.out;omega)
          have hpm0:pm=0:=by rw [hpm,hy0,Nat.mul_zero]
          obtain rfl:tk=B:=by omega
          clear hy hu hpm htk hX hlo hhi hB2 hin HL2 hbk HS hf hkl hkq hy0 hpm0
          go_wp2_with fail
          go_roundw
          case rel=>exact ⟨k+1,B2,_,by omega,by simp,rfl,hB3,HI2.out,HL3,HB2.out,HST,HF2.out⟩
          case measure=>(have h1:=HN1.out;simp [intOf];omega)
    ·obtain ⟨p,hp⟩:∃ p,p=k - 1:=⟨_,rfl⟩
     have HK:Hid (k=p+1):=Lib.hid (by omega)
     have s1:(k:Int) - 1=(p:Int):=by omega
     have k2:(0:Int)<k:=by omega
     have k3:(0:Int)≤p:=by omega
     have k4:(0:Int)≤k:=by omega
     have k5:(p:Int)<n1:=by have:=HN1.out;omega
     have k6:(k:Int)<n1:=by have:=HN1.out;omega
     have hpl:p<r2.length:=by rw [HL2.out];omega
     have hkl:k<r2.length:=by rw [HL2.out];omega
     have d0:=dcell hbk hpl
     have d1:=dcell hbk hkl
     have dz:=hbk.frozen k
     have hyl:=hin.at p
     have HB2:=Lib.hid (fun y:Nat=>dset hbk k y)
     have HI2:=Lib.hid (fun y hy=>hin.set k y hy)
     have HF2:=Lib.hid (fun y:Nat=>hf.setCell_new (p:=⟨w.heap.size,k,none⟩) (Nat.le_refl _) (dV .u32 y))
     have HL3:Hid (∀ y:Nat,(r2.set k y).length=n+1):=Lib.hid (fun y=>by rw [List.length_set];exact HL2.out)
     have HS2:Hid ((∀ i,i≤p→(r2.set k (r2.getD p 0)).getD i 0=r.getD i 0)∧∀ i,p≤i→i<n→(r2.set k (r2.getD p 0)).getD (i+1) 0=r.getD i 0):=Lib.hid ⟨fun i hi=>by
      rw [getD_set_ne (by have:=HK.out;omega)];exact HS.out.1 i (by have:=HK.out;omega),fun i h1 h2=>by
      by_cases e:i=p
      ·subst e
       rw [← HK.out,getD_set_eq hkl];exact HS.out.1 i (by have:=HK.out;omega)
      ·rw [getD_set_ne (by have:=HK.out;omega)];exact HS.out.2 i (by have:=HK.out;omega) h2⟩
     clear hp hin hbk hf HL2 HS hpl hkl
     generalize r2.getD p 0=y at *
     go_wp2_with fail
     go_roundw
     case rel=>exact ⟨p,_,by have:=HK.out;omega,rfl,HI2.out y hyl,Lib.hid (HL3.out y),HB2.out y,HS2,HF2.out y⟩
     case measure=>(simp [intOf];omega)
end Go.Proofs.YtbifjamddbpcjaaGreatDoor
