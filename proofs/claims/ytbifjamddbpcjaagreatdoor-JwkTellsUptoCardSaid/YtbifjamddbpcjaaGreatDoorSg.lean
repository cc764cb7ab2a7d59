/- The document's sums (layer 2): bytes of a number. -/
import Derived.Test.YtbifjamddbpcjaaGreatDoorSe
namespace Go.Proofs.YtbifjamddbpcjaaGreatDoor
set_option maxRecDepth 100000
set_option maxHeartbeats 25600000
open Go.RowKit
theorem WR:cz KL=jf:=by decide +kernel
theorem WS:cz FL=initP:=by decide +kernel
end Go.Proofs.YtbifjamddbpcjaaGreatDoor
namespace Go.Proofs.YtbifjamddbpcjaaGreatDoor
set_option maxRecDepth 100000
set_option maxHeartbeats 25600000
open Go.RowKit
def lU (x many k:Nat):Bs:=(List.range k).map (fun j=>ll ((x:Int) / 2 ^ (8*(many - 1 - j))))
theorem GC (x many k:Nat):lU x many (k+1)=lU x many k++[ll ((x:Int) / 2 ^ (8*(many - 1 - k)))]:=by
 unfold lU;rw [List.range_succ,List.map_append];rfl
theorem td (x many k:Nat):(lU x many k).length=k:=by simp [lU]
theorem GD (x:Nat):lU x 4 4=lp (x:Int) 4:=by
 unfold lU lp;refine List.map_congr_left (fun j hj => ?_);have:=List.mem_range.1 hj;rw [show 8*(4 - 1 - j)=24 - 8*j by omega]
theorem GF (n:Nat):lU (8*n) 8 8=nH n 8:=by
 unfold lU nH;refine List.map_congr_left (fun j hj => ?_);have:=List.mem_range.1 hj;rw [show 8*(8 - 1 - j)=56 - 8*j by omega,Int.natCast_mul];rfl
theorem abx (n:Nat) (h:n<18446744073709551616):bits .and .u64 (n:Int) 255=((n % 256:Nat):Int):=by
 have:=iL n 255 h (by omega);rw [show n &&& 255=n % 256 from Nat.and_two_pow_sub_one_eq_mod n 8] at this;exact this
theorem qt (x many:Nat) (w:World) (hx:x<18446744073709551616) (hm:many<=8) :
  Calls Tryz.prog 113 #[.int .u64 x,.int .i64 many] w fun e w'=>∃ v,e=.returned v/\BR w.heap.size w' v (lU x many many)/\Fr NoB w w':=by
 have b0:BR w.heap.size (w.alloc (.cells #[] 5)) (.slice (some ⟨w.heap.size,0,none⟩) 0 0) []:=BR.first w #[] [] rfl (by decide)
 have f0:Fr NoB w (w.alloc (.cells #[] 5)):=(Fr.refl _ _).alloc _;go_enter Tryz.func113,Tryz.ntmps113;go_upto_region 2 with fail;generalize w.alloc (.cells #[] 5)=W at *;go_wp2_with fail;go_loopw [5,6] (fun v5 v6 wr=>∃ (k:Nat) (z:Int),k<=many/\z=(many:Int) - 1 - k/\v6=.int .i64 z/\BR w.heap.size wr v5 (lU x many k)/\Fr NoB w wr) (fun _ v6 _=>(intOf v6+1).toNat)
 case atStart=>exact ⟨0,(many:Int) - 1,by omega,by omega,rfl,by simpa [lU] using b0,f0⟩
 case round=>
  clear b0 f0;obtain ⟨k,z,hk,hz,rfl,hown,hf⟩:=hrel;have E8:=hf.size;have ju:=td x many k;by_cases hlt:k<many
  ·obtain ⟨m,hmm⟩:∃ m:Nat,m=many - 1 - k:=⟨_,rfl⟩;obtain rfl:z=(m:Int):=by omega
   have HK:Hid (k+1<=many/\(m:Int) - 1=(many:Int) - 1 - ((k+1:Nat):Int)):=hd' ⟨by omega,by omega⟩;have hm7:(m:Int)<=7:=by omega
   have k0:(0:Int)<=m:=by omega
   have k7:¬ (7:Int)<m:=by omega
   have HN:Hid (lU x many (k+1)=lU x many k++[ll ((x:Int) / 2 ^ (8*m))]):=hd' (by rw [hmm];exact GC x many k);have p0:(0:Int)<=8*(m:Int):=by omega
   have p1:(8*(m:Int)).toNat=8*m:=by omega
   obtain ⟨q,hq⟩:∃ q,q=x / 2 ^ (8*m):=⟨_,rfl⟩;have tZ:q<18446744073709551616:=by rw [hq];exact Nat.lt_of_le_of_lt (Nat.div_le_self _ _) hx
   have hv:(x:Int) / 2 ^ (8*m)=(q:Int):=by rw [hq,Int.natCast_ediv,Int.natCast_pow];rfl
   have e2:=pK (q:Int);rw [hv] at HN;generalize ll (q:Int)=b8 at *;have e1:bits .and .u64 (q:Int) 255=(b8.toNat:Int):=by rw [abx q tZ,e2];rfl
   have e3:=b8.toNat_lt;clear e2 hmm hz hq hlt;have fa:Fr NoB wr (wr.alloc (.cells #[.int .u8 (b8.toNat:Int)] 5)):=(Fr.refl _ _).alloc _;have dq:=hown.fr fa;go_wp2_with (at_builtin;go_loud (refine dL rfl _ _ rfl w.heap.size u5 _ rfl dq wr.heap.size 1 1 [b8] rfl rfl (aF wr #[.int .u8 (b8.toNat:Int)] [b8] rfl) (by rw [ju];simp;omega) (by simp;omega) ?_;intro v4 w4 aB hgr));go_roundw
   case rel=>exact ⟨k+1,(m:Int) - 1,HK.out.1,HK.out.2,by simp,by rw [HN.out];exact aB,dq.grown (hf.trans fa) hgr (Nat.le_refl _)⟩
   case measure=>(simp [intOf]<;>omega)
  ·obtain rfl:k=many:=by omega
   have hz0:z<0:=by omega
   have hz1:¬ (0:Int)<=z:=by omega
   clear hz;go_wp2_with fail;go_ret;exact ⟨_,rfl,hown,hf⟩
end Go.Proofs.YtbifjamddbpcjaaGreatDoor
