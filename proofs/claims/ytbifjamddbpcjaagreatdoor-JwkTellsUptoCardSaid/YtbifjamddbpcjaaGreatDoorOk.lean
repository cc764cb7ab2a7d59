/- An argument that is a key, or a slice of keys, opened; how great it is. -/
import Derived.Test.YtbifjamddbpcjaaGreatDoorGw
import Derived.Test.YtbifjamddbpcjaaGreatDoorCa
import Derived.Test.YtbifjamddbpcjaaGreatDoorYk
import Derived.Laws.StructEq
namespace Go.Proofs.YtbifjamddbpcjaaGreatDoor
set_option maxRecDepth 100000
set_option maxHeartbeats 25600000
open Go.RowKit
def nH (n k:Nat):Bs:=(List.range k).map (fun j=>ll (8*(n:Int) / 2 ^ (56 - 8*j)))
theorem Gr (n k:Nat):nH n (k+1)=nH n k++[ll (8*(n:Int) / 2 ^ (56 - 8*k))]:=by
 unfold nH;rw [List.range_succ,List.map_append];rfl
theorem lR (n k:Nat):(nH n k).length=k:=by simp [nH]
def zP (n:Nat):Nat:=(119 - n % 64) % 64
theorem Ko (n:Nat):zP n<64:=Nat.mod_lt _ (by decide)
theorem Kp {n m:Nat} (h:m<=zP n):(n+(m+1)+8) % 64=0 ↔ m=zP n:=by unfold zP at *;omega
def sZ (n:Nat):Bs:=(128::List.replicate (zP n) 0)++nH n 8
def qG (M:Bs):Bs:=M++sZ M.length
def eP (M:Bs):Bs:=eW (blocksP initP (qG M) ((qG M).length / 64))
theorem sF (M:Bs):(eP M).length=32:=by rw [eP,lO,nI];rfl
theorem Kq (st:List Int) (buf:Bs) (n:Nat):(hashC st buf n).all (·.oneCell')=true:=by
 rw [Array.all_eq_true_iff_forall_mem];intro x hx;rw [<- Array.mem_toList_iff,ib] at hx;simp only [List.mem_append,List.mem_map,List.mem_replicate,List.mem_singleton] at hx;rcases hx with h|⟨_,_,rfl⟩|⟨_,rfl⟩|⟨_,_,rfl⟩|rfl
 ·exact (Array.all_eq_true_iff_forall_mem.1 (show kindC.all (·.oneCell')=true by simp [Value.oneCell'])) x (by simpa using h)
 all_goals rfl
theorem pO (ty:TypeId) (g n c:Nat) (hc:n<=c) (w:World):(Builtin.append_ #[81,3] ty #[.slice (some ⟨g,0,none⟩) n c,.int .i64 0]).run Tryz.prog w=.ok (.slice (some ⟨g,0,none⟩) n c) w:=by
 have h1:Tryz.prog.underlying 81=some (.slice 5):=Tryz.underlying81;have h2:Tryz.prog.underlying 3=some (.int .i64):=Tryz.underlying3;obtain ⟨i0,jv,_,_,hz2⟩:=info_parts cO;have h0:IntKind.i64.wrap 0=0:=by decide
 simp [Builtin.append_,run_underlying h1,run_underlying h2,sizeOf,typeInfo,jv,hz2,asInt,asIntOf,h0,hc,storeCells]
theorem CI {ops:Array Oper} {rest:List Oper} {o:Oper} {a:Act} {Q:Exit->Act->World->Prop} {w:World} (hgd:o.guard=none) (sl x:Operand)
  (ho:o.op=.call { callee:=.builtin .append,args := #[sl,x],argTypes := #[81,3] }) (g n c:Nat) (hs:a.eval sl=.slice (some ⟨g,0,none⟩) n c) (hx:a.eval x=.int .i64 0) (hc:n<=c)
  (h:wpList Tryz.prog ops Q rest (a.put o.dst (.slice (some ⟨g,0,none⟩) n c)) w):wpList Tryz.prog ops Q (o::rest) a w:=
 wpList_plain hgd fun _ hK=>by
  have hr:=pO o.type g n c hc w;unfold Oper.wp execOp;simp only [ho,resolve,invoke,builtin,Sem.run_bind,Sem.run_pure,Result.andThen_ok,List.map_toArray,List.map_cons,List.map_nil,hs,hx,hr];exact hK _ _ h
theorem Fr.Aj {a w w':World} {c:Nat} (h:Fr NoB a w) (k:Fr (Only c) w w') (hc:a.heap.size<=c):Fr NoB a w':=
 ⟨by rw [k.os,h.os],by rw [k.tape,h.tape],by rw [k.output,h.output],Nat.le_trans h.size k.size,fun i hi hn=>(k.block i (Nat.lt_of_lt_of_le hi h.size) (fun (e:i=c)=>by omega)).trans (h.block i hi hn)⟩
theorem Kr (h:Nat) (M buf:Bs) (w:World) (hk:Hs h M buf w) (hsz:M.length<1099511627776) :
  Calls Tryz.prog 107 #[.pointer (some ⟨h,0,none⟩)] w fun e w'=>e=.returned (.string ⟨(eP M).toArray⟩)/\Fr NoB w w':=by
 have cj:=Hs.st8 M;have hb:=hk.b;have ju:=hk.l;have zg:=vM (blocksP initP M (M.length / 64)) buf M.length cj ju;go_enter Tryz.func107,Tryz.ntmps107;go_upto_region 2 with (first|(refine wpList_load_row rfl 228 _ rfl h rfl 228 _ _ _ hb Tryz.underlying228 rfl (by rw [vt,zg]) ?_)|(refine wpList_store_row rfl 228 _ _ rfl w.heap.size (hashC (blocksP initP M (M.length / 64)) buf M.length) rfl rfl 228 _ (Blk.new w 228 _) (by rw [vt,zg]) (by rw [zg];rfl) (Kq _ _ _) ?_));have f1:Fr NoB w ((w.alloc (.cells Tryz.zeroCells228 228)).setRow w.heap.size (hashC (blocksP initP M (M.length / 64)) buf M.length)):=((Fr.refl NoB w).alloc _).setRow _ _ (Or.inl (Nat.le_refl _));have IB:=hk.fr f1;have hc1:Hs w.heap.size M buf ((w.alloc (.cells Tryz.zeroCells228 228)).setRow w.heap.size (hashC (blocksP initP M (M.length / 64)) buf M.length)):=⟨(Blk.new w 228 _).setRow _,ju,hk.t⟩;generalize (w.alloc (.cells Tryz.zeroCells228 228)).setRow w.heap.size (hashC (blocksP initP M (M.length / 64)) buf M.length)=W1 at *;have hlt:=hk.b.lt;clear hb hk zg;generalize Bn:w.heap.size=c at *;have HGe:=hd' Bn;clear Bn;have b0:=BR.first W1 #[.int .u8 128] [128] rfl (by decide)
 have f2:Fr NoB W1 (W1.alloc (.cells #[.int .u8 128] 5)):=(Fr.refl _ _).alloc _;go_wp2_with fail;go_loopw [4] (fun v4 wr=>∃ m:Nat,m<=zP M.length/\BR W1.heap.size wr v4 (128::List.replicate m 0)/\Fr NoB W1 wr) (fun v4 _=>64 - (match v4 with | .slice _ n _=>n|_=>0))
 case atStart=>exact ⟨0,Nat.zero_le _,b0,f2⟩
 case round=>
  clear b0;obtain ⟨m,hm,hown,hf⟩:=hrel;have hz:=Ko M.length;have YR:=Kp hm;have MQ:=IB.fr hf;obtain ⟨g,cc,rfl,hg1,Bk,_⟩:=hown.sl (by simp);have iE:=hown.conv;have R8:m+1<=cc:=by
   rcases hown.2 with ⟨h,h2⟩|⟨g',c',cur,h,_,_,h2,_⟩
   ·simp at h2
   ·simp at h;simp at h2;omega
  have e1:((128:UInt8)::List.replicate m 0).length=m+1:=by simp
  rw [e1] at hown iE ⊢;have d0:wr.cell? ⟨h,160,none⟩=some (.int .i64 (M.length:Int)):=tc MQ.b cj ju;have d1:wr.cell? ⟨h,15,none⟩=some (.int .i64 8):=au MQ.b 15 (by omega);have d2:wr.cell? ⟨h,13,none⟩=some (.int .i64 64):=au MQ.b 13 (by omega);have Gs:((M.length:Int)+((m:Int)+1)+8).tmod 64=(((M.length+(m+1)+8) % 64:Nat):Int):=rfl;go_upto_if 29 with fail;go_cut [29] (fun v wx=>v=.bool (!decide (m=zP M.length))/\∃ q,wx=wr.drewN q)
  case first=>
   by_cases Eo:m=zP M.length
   ·have h0:=YR.2 Eo;(have h0i:((M.length:Int)+((m:Int)+1)+8) % 64=0:=by omega);(have ed:decide (m=zP M.length)=true:=by simp [Eo]);clear Eo;generalize (M.length+(m+1)+8) % 64=x at *;go_region;all_goals (go_wp2_with fail;go_meet;exact ⟨by rw [ed];rfl,_,rfl⟩)
   ·have h0:¬ (M.length+(m+1)+8) % 64=0:=fun e=>Eo (YR.1 e);generalize (M.length+(m+1)+8) % 64=x at *;go_region;all_goals (go_wp2_with fail;go_meet;exact ⟨by simp [Eo,h0],_,rfl⟩)
  case rest=>
  obtain ⟨rfl,q,hq⟩:=hcut;have Wg:Fr NoB W1 wc:=by rw [hq];exact hf.drewN q
  have Wh:BR W1.heap.size wc (.slice (some ⟨g,0,none⟩) (m+1) cc) (128::List.replicate m 0):=by rw [hq];exact hown.fr ((Fr.refl _ _).drewN q)
  clear hq hown iE hf d0 d1 d2 MQ;have hW:=Wg.size;by_cases Eo:m=zP M.length
  ·have ed:decide (m=zP M.length)=true:=by simp [Eo]
   rw [ed];have MQ:=IB.fr Wg;have d1:wc.cell? ⟨h,15,none⟩=some (.int .i64 8):=au MQ.b 15 (by omega);rw [Eo] at Wh;clear Gs YR;obtain ⟨E,hE⟩:∃ E,E=(128:UInt8)::List.replicate (zP M.length) 0:=⟨_,rfl⟩;have hEl:E.length=zP M.length+1:=by rw [hE];simp
   rw [<- hE] at Wh;have HE:=hd' hE;clear hE;go_wp2_with (at_builtin;go_loud (refine CI rfl (.tmp 33) (.tmp 39) rfl g (m+1) cc rfl rfl R8 ?_));have abb:=IB;clear IB MQ d1 ed hm;have b1:BR W1.heap.size wc (.slice (some ⟨g,0,none⟩) (zP M.length+1) cc) (E++nH M.length 0):=by simpa [nH] using Wh
   clear Wh;go_loopw [4,5] (fun v4 v5 wx=>∃ k:Nat,k<=8/\v5=.int .i64 (56 - 8*(k:Int))/\BR W1.heap.size wx v4 (E++nH M.length k)/\Fr NoB W1 wx) (fun _ v5 _=>(intOf v5+8).toNat)
   case atStart=>exact ⟨0,by omega,rfl,b1,Wg⟩
   case round=>
    clear b1 Wg;obtain ⟨k,ua,rfl,hown,hf⟩:=hrel;have Uj:=hf.size;have MQ:=abb.fr hf;by_cases Gi:k<8
    ·(have p0:(0:Int)<=56 - 8*(k:Int):=by omega);(have p1:(56 - 8*(k:Int)).toNat=56 - 8*k:=by omega);have d0:wr.cell? ⟨h,160,none⟩=some (.int .i64 (M.length:Int)):=tc MQ.b cj ju;have HN:=hd' (Gr M.length k);have e2:=pK (8*(M.length:Int) / 2 ^ (56 - 8*k));have e2':=e2.symm;generalize ll (8*(M.length:Int) / 2 ^ (56 - 8*k))=b8 at *;clear e2;have Bo:=lR M.length k;have fa:Fr NoB wr (wr.alloc (.cells #[.int .u8 (b8.toNat:Int)] 5)):=(Fr.refl _ _).alloc _;have dq:=hown.fr fa;go_wp2_with (at_builtin;go_loud (refine dL rfl _ _ rfl W1.heap.size u4 _ rfl dq wr.heap.size 1 1 [b8] rfl rfl (aF wr #[.int .u8 (b8.toNat:Int)] [b8] rfl) (by rw [List.length_append,Bo,hEl];simp;omega) (by simp;omega) ?_;intro v4 w4 aB hgr));go_roundw
     case rel=>exact ⟨k+1,by omega,by congr 1;omega,by rw [HN.out,<- List.append_assoc];exact aB,dq.grown (hf.trans fa) hgr (Nat.le_refl _)⟩
     case measure=>simp [intOf];omega
    ·(have hk8:k=8:=by omega);(have p0:¬ (0:Int)<=56 - 8*(k:Int):=by omega);rw [hk8] at hown;(have hEe:E++nH M.length 8=sZ M.length:=by rw [HE.out];rfl);(have Rv:(sZ M.length).length=zP M.length+9:=by rw [<- hEe,List.length_append,hEl,lR]);rw [hEe] at hown;have iE:=hown.conv;have Vk:=hc1.fr hf;(have hne:sZ M.length≠[]:=fun e=>by rw [e] at Rv;simp at Rv);obtain ⟨g4,c4,rfl,_,_,_⟩:=hown.sl hne;rw [Rv] at iE;clear hk8 Gi ua;have HW:=hd' (vN c M buf (sZ M.length) wr Vk (by rw [Rv];omega));have hHr:=MQ;go_upto_region 11 with (go_at_call 106;go_loud (with_reducible refine HW.out.mono ?_);rintro e' w9 ⟨rfl,aiD,hs9,ho9⟩);have hkh:Hs h M buf w9:=⟨ho9.blk hHr.b (fun (e:h=c)=>by omega),ju,hHr.t⟩;have d3:w9.cell? ⟨h,0,none⟩=some (.int .i64 32):=au hkh.b 0 (by omega);have qU:=hs9.b;have abd:=Hs.st8 (M++sZ M.length);have HS9:=hd' (show eP M=eW (blocksP initP (M++sZ M.length) ((M++sZ M.length).length / 64)) from rfl);generalize blocksP initP (M++sZ M.length) ((M++sZ M.length).length / 64)=Z at *;obtain ⟨a0,a1,a2,a3,a4,a5,a6,a7,rfl⟩:=nZ abd;have HT:Hid (∀ u,Calls Tryz.prog 157 #[.agg #[.int .u32 a0,.int .u32 a1,.int .u32 a2,.int .u32 a3,.int .u32 a4,.int .u32 a5,.int .u32 a6,.int .u32 a7],.agg #[.int .i64 32,.int .i64 7,.int .i64 18,.int .i64 3,.int .i64 17,.int .i64 19,.int .i64 10,.int .i64 6,.int .i64 11,.int .i64 25,.int .i64 2,.int .i64 13,.int .i64 22,.int .i64 64,.int .i64 32,.int .i64 8]] u fun e' w'=>e'=.returned (.string ⟨(eW [a0,a1,a2,a3,a4,a5,a6,a7]).toArray⟩)/\Fr NoB u w'):=hd' (fun u=>Gh [a0,a1,a2,a3,a4,a5,a6,a7] u rfl);rw [<- HS9.out] at HT;have q0:w9.cell? ⟨c,0,none⟩=some (.int .i64 32):=au qU 0 (by omega);have q1:w9.cell? ⟨c,1,none⟩=some (.int .i64 7):=au qU 1 (by omega);have q2:w9.cell? ⟨c,2,none⟩=some (.int .i64 18):=au qU 2 (by omega);have q3:w9.cell? ⟨c,3,none⟩=some (.int .i64 3):=au qU 3 (by omega);have q4:w9.cell? ⟨c,4,none⟩=some (.int .i64 17):=au qU 4 (by omega);have q5:w9.cell? ⟨c,5,none⟩=some (.int .i64 19):=au qU 5 (by omega);have q6:w9.cell? ⟨c,6,none⟩=some (.int .i64 10):=au qU 6 (by omega);have q7:w9.cell? ⟨c,7,none⟩=some (.int .i64 6):=au qU 7 (by omega);have q8:w9.cell? ⟨c,8,none⟩=some (.int .i64 11):=au qU 8 (by omega);have q9:w9.cell? ⟨c,9,none⟩=some (.int .i64 25):=au qU 9 (by omega);have YS:w9.cell? ⟨c,10,none⟩=some (.int .i64 2):=au qU 10 (by omega);have YT:w9.cell? ⟨c,11,none⟩=some (.int .i64 13):=au qU 11 (by omega);have q12:w9.cell? ⟨c,12,none⟩=some (.int .i64 22):=au qU 12 (by omega);have q13:w9.cell? ⟨c,13,none⟩=some (.int .i64 64):=au qU 13 (by omega);have q14:w9.cell? ⟨c,14,none⟩=some (.int .i64 32):=au qU 14 (by omega);have q15:w9.cell? ⟨c,15,none⟩=some (.int .i64 8):=au qU 15 (by omega);have r0:w9.cell? ⟨c,16,none⟩=some (.int .u32 a0):=bB qU rfl 0 (by omega);have r1:w9.cell? ⟨c,17,none⟩=some (.int .u32 a1):=bB qU rfl 1 (by omega);have r2:w9.cell? ⟨c,18,none⟩=some (.int .u32 a2):=bB qU rfl 2 (by omega);have r3:w9.cell? ⟨c,19,none⟩=some (.int .u32 a3):=bB qU rfl 3 (by omega);have r4:w9.cell? ⟨c,20,none⟩=some (.int .u32 a4):=bB qU rfl 4 (by omega);have r5:w9.cell? ⟨c,21,none⟩=some (.int .u32 a5):=bB qU rfl 5 (by omega);have r6:w9.cell? ⟨c,22,none⟩=some (.int .u32 a6):=bB qU rfl 6 (by omega);have r7:w9.cell? ⟨c,23,none⟩=some (.int .u32 a7):=bB qU rfl 7 (by omega);have fz:Fr NoB w w9:=(f1.trans hf).Aj ho9 (by rw [HGe.out];exact Nat.le_refl _);go_wp2_with (go_at_call 157;((with_reducible refine (HT.out _).mono ?_);rintro e' w10 ⟨rfl,f10⟩));go_ret;exact ⟨rfl,fz.trans f10⟩
  ·have ed:decide (m=zP M.length)=false:=by simp [Eo]
   rw [ed];have fa:Fr NoB wc (wc.alloc (.cells #[.int .u8 0] 5)):=(Fr.refl _ _).alloc _;have dq:=Wh.fr fa;go_wp2_with (at_builtin;go_loud (refine dL rfl _ _ rfl W1.heap.size (.slice (some ⟨g,0,none⟩) (m+1) cc) _ rfl dq wc.heap.size 1 1 [0] rfl rfl (aF wc #[.int .u8 0] [0] rfl) (by simp;omega) (by simp;omega) ?_;intro v4 w4 aB hgr));go_roundw
   case rel=>exact ⟨m+1,by omega,by rw [List.replicate_succ'];exact aB,dq.grown (Wg.trans fa) hgr (Nat.le_refl _)⟩
   case measure=>
    obtain ⟨g5,c5,rfl,_,_,_⟩:=aB.sl (by simp);simp;omega
theorem Kt (s:Bs) (w:World) (hs:s.length<1099511627776) :
  Calls Tryz.prog 64 #[.int .i64 0,.string ⟨s.toArray⟩] w fun e w'=>e=.returned (.tuple #[.string ⟨(eP s).toArray⟩,.int .i64 0])/\Fr NoB w w':=by
 go_enter Tryz.func64,Tryz.ntmps64;go_upto_region 4 with (go_at_call 105;((with_reducible refine (Og _).mono ?_);rintro e w1 ⟨h,rfl,hh,hb,f1⟩));have hk:Hs h [] (List.replicate 128 0) w1:=⟨hb,by simp,rfl⟩;have HW:=hd' (vN h [] (List.replicate 128 0) s w1 hk (by simp;omega));clear hb;go_upto_region 5 with (go_at_call 106;(with_reducible refine HW.out.mono ?_);rintro e w2 ⟨rfl,buf,Rm,f2⟩);have f12:=f1.Aj f2 hh;rw [List.nil_append] at Rm;have HS:=hd' (Kr h s buf w2 Rm hs);go_wp2_with (go_at_call 107;(with_reducible refine HS.out.mono ?_);rintro e w3 ⟨rfl,f3⟩);go_ret2;exact ⟨rfl,f12.trans f3⟩
theorem sE (s:Bs) (w:World) (hs:s.length<1099511627776) :
  Calls Tryz.prog 31 #[.string ⟨s.toArray⟩] w fun e w'=>e=.returned (.string ⟨(eP s).toArray⟩)/\Fr NoB w w':=by
 go_enter Tryz.func31,Tryz.ntmps31;go_wp2_with (go_at_call 64;(with_reducible refine (Kt s _ hs).mono ?_);rintro e w3 ⟨rfl,f3⟩);go_ret;exact ⟨rfl,f3⟩
end Go.Proofs.YtbifjamddbpcjaaGreatDoor
namespace Go.Proofs.YtbifjamddbpcjaaGreatDoor
set_option maxRecDepth 100000
set_option maxHeartbeats 25600000
open Go.ChangeShapes Go.WideShapes Go.Deep Go.RowKit
theorem Eh {α:Type}:∀ (l:List α),l.length=2->∃ a b,l=[a,b]
 | [a,b],_=>⟨a,b,rfl⟩
 | [],h=>by simp at h
 | [_],h=>by simp at h
 | _::_::_::_,h=>by simp at h
theorem N8 {α:Type}:∀ (l:List α),l.length=6->∃ a b c d e f,l=[a,b,c,d,e,f]
 | [a,b,c,d,e,f],_=>⟨a,b,c,d,e,f,rfl⟩
 | [],h=>by simp at h
 | [_],h=>by simp at h
 | [_,_],h=>by simp at h
 | [_,_,_],h=>by simp at h
 | [_,_,_,_],h=>by simp at h
 | [_,_,_,_,_],h=>by simp at h
 | _::_::_::_::_::_::_::_,h=>by simp at h
theorem Gb {α:Type}:∀ (l:List α),l.length=8->∃ a b c d e f g h,l=[a,b,c,d,e,f,g,h]
 | [a,b,c,d,e,f,g,h],_=>⟨a,b,c,d,e,f,g,h,rfl⟩
 | [],h=>by simp at h
 | [_],h=>by simp at h
 | [_,_],h=>by simp at h
 | [_,_,_],h=>by simp at h
 | [_,_,_,_],h=>by simp at h
 | [_,_,_,_,_],h=>by simp at h
 | [_,_,_,_,_,_],h=>by simp at h
 | [_,_,_,_,_,_,_],h=>by simp at h
 | _::_::_::_::_::_::_::_::_::_,h=>by simp at h
def yC (k:Ky):Nat:=k.kid.length+k.alg.length+k.n.length+k.e.length+k.x.length+k.y.length+k.sec.length
theorem Ec {k:Ky} (hi:IntOk k.kty) (h:yC k<=1048576):KySm k:=by
 unfold yC at h;exact ⟨hi,by unfold lot;omega,by unfold lot;omega,by unfold lot;omega,by unfold lot;omega,by unfold lot;omega,by unfold lot;omega,by unfold lot;omega⟩
def pH (l:List Ky):List Value:=l.flatMap (fun k=>(aR k).toList)
theorem FV (l:List Ky) (k:Ky):pH (l++[k])=pH l++(aR k).toList:=by simp [pH]
section
variable {H:Type} {enc:TypeId×Value->H} {w:World} {base:Nat} {spare:Nat->Bool} {held:Bool}
theorem jn {fuel:Nat} {v:Value} {x:DataW H×List MemPlace} (h:DataW.trod enc Tryz.prog w base spare held fuel 9 [v]=some x):∃ s:Bs,v=.string ⟨s.toArray⟩/\Rows.uptoBulk x.1=s.length+1:=by
 obtain ⟨s,e,hx,_⟩:=DataW.trod_string Tryz.underlying9 h;simp only [List.cons.injEq,and_true] at e;subst e;exact ⟨s.data.toList,by simp,by rw [hx];simp [Rows.uptoBulk]⟩
theorem Ka {fuel:Nat} {a b:Value} {x:DataW H×List MemPlace} (h:DataW.trod enc Tryz.prog w base spare held fuel 23 [a,b]=some x):∃ s t:Bs,a=.string ⟨s.toArray⟩/\b=.string ⟨t.toArray⟩/\s.length+t.length<=Rows.uptoBulk x.1:=by
 obtain ⟨ys,n,_,hy,tY,pj,hf⟩:=DataW.trod_struct Tryz.underlying23 h;have P9:ys.length=2:=pj;obtain ⟨y0,y1,rfl⟩:=Eh ys P9;obtain ⟨s,rfl,h0⟩:=jn (hf 0 _ rfl:DataW.trod enc Tryz.prog w base spare held n 9 [a]=some y0);obtain ⟨t,rfl,h1⟩:=jn (hf 1 _ rfl:DataW.trod enc Tryz.prog w base spare held n 9 [b]=some y1);refine ⟨s,t,rfl,rfl,?_⟩;rw [hy];simp only [List.map_cons,List.map_nil,Rows.uptoBulk,Rows.uptoBulkAll,h0,h1];omega
theorem N9 {fuel:Nat} {a b:Value} {x:DataW H×List MemPlace} (h:DataW.trod enc Tryz.prog w base spare held fuel 25 [a,b]=some x):∃ s t:Bs,a=.string ⟨s.toArray⟩/\b=.string ⟨t.toArray⟩/\s.length+t.length<=Rows.uptoBulk x.1:=by
 obtain ⟨ys,n,_,hy,tY,pj,hf⟩:=DataW.trod_struct Tryz.underlying25 h;have P9:ys.length=2:=pj;obtain ⟨y0,y1,rfl⟩:=Eh ys P9;obtain ⟨s,rfl,h0⟩:=jn (hf 0 _ rfl:DataW.trod enc Tryz.prog w base spare held n 9 [a]=some y0);obtain ⟨t,rfl,h1⟩:=jn (hf 1 _ rfl:DataW.trod enc Tryz.prog w base spare held n 9 [b]=some y1);refine ⟨s,t,rfl,rfl,?_⟩;rw [hy];simp only [List.map_cons,List.map_nil,Rows.uptoBulk,Rows.uptoBulkAll,h0,h1];omega
theorem N4 {fuel:Nat} {cs:List Value} {x:DataW H×List MemPlace} (h:DataW.trod enc Tryz.prog w base spare held fuel 27 cs=some x):∃ k:Ky,cs=(aR k).toList/\IntOk k.kty/\yC k+1<=Rows.uptoBulk x.1:=by
 obtain ⟨ys,n,_,hy,tY,pj,hf⟩:=DataW.trod_struct Tryz.underlying27 h;have hc8:Tryz.prog.cellsOf 27=8:=by kernel_rfl
 rw [hc8] at tY;obtain ⟨v0,v1,v2,v3,v4,v5,v6,v7,rfl⟩:=Gb cs tY;have P9:ys.length=6:=pj;obtain ⟨y0,y1,y2,y3,y4,y5,rfl⟩:=N8 ys P9;have t0:DataW.trod enc Tryz.prog w base spare held n 3 [v0]=some y0:=hf 0 _ rfl;have t1:DataW.trod enc Tryz.prog w base spare held n 9 [v1]=some y1:=hf 1 _ rfl;have t2:DataW.trod enc Tryz.prog w base spare held n 9 [v2]=some y2:=hf 2 _ rfl;have t3:DataW.trod enc Tryz.prog w base spare held n 23 [v3,v4]=some y3:=hf 3 _ rfl;have t4:DataW.trod enc Tryz.prog w base spare held n 25 [v5,v6]=some y4:=hf 4 _ rfl;have t5:DataW.trod enc Tryz.prog w base spare held n 9 [v7]=some y5:=hf 5 _ rfl;clear hf;obtain ⟨z,e0,x0,w0⟩:=DataW.trod_int Tryz.underlying3 t0;simp only [List.cons.injEq,and_true] at e0;subst e0;obtain ⟨s1,rfl,b1⟩:=jn t1;obtain ⟨s2,rfl,b2⟩:=jn t2;obtain ⟨s3,s4,rfl,rfl,b3⟩:=Ka t3;obtain ⟨s5,s6,rfl,rfl,b4⟩:=N9 t4;obtain ⟨s7,rfl,b5⟩:=jn t5;refine ⟨⟨z,s1,s2,s3,s4,s5,s6,s7⟩,rfl,RL w0,?_⟩;rw [hy];simp only [List.map_cons,List.map_nil,Rows.uptoBulk,Rows.uptoBulkAll,b1,b2,b5,yC];omega
end
open Go.RowKit
theorem vq:∀ l:List (Bs×Bs),uH (l.map (fun p=>textJ p.2))+Ei (l.map (fun p=>p.1))=(l.map (fun p=>p.2.length+p.1.length+6)).sum
 | []=>rfl
 | a::r=>by
  have:=vq r;simp only [List.map_cons,uH,Ei,List.sum_cons,textJ,iY];simp only [textJ] at this;omega
theorem Kb (nm t:Bs):((kf nm t).map (fun p=>p.2.length+p.1.length+6)).sum<=t.length+nm.length+6:=by
 unfold kf;split<;>simp
theorem Gc (k:Ky):((eI k).map (fun p=>p.2.length+p.1.length+6)).sum<=2*yC k+100:=by
 have oa:=Kb dW k.alg;have oi:=Kb cD k.kid;have c1:dW.length=3:=rfl;have c2:cD.length=3:=rfl;have c3:bm.length=3:=rfl;have c4:nE.length=1:=rfl;have c5:nN.length=1:=rfl;have c6:jj.length=3:=rfl;have c7:nX.length=1:=rfl;have c8:nY.length=1:=rfl;have c9:nK.length=1:=rfl;have d1:jw.length=3:=rfl;have d2:qB.length=2:=rfl;have d3:eH.length=3:=rfl;have d4:gQ.length=5:=rfl;unfold eI yC;split
 ·simp only [List.map_append,List.sum_append,List.map_cons,List.map_nil,List.sum_cons,List.sum_nil,dO,c1,c2,c3,c4,c5,d1] at oa oi ⊢;omega
 ·split
  ·simp only [List.map_append,List.sum_append,List.map_cons,List.map_nil,List.sum_cons,List.sum_nil,dO,c1,c2,c3,c6,c7,c8,d2,d4] at oa oi ⊢;omega
  ·simp only [List.map_append,List.sum_append,List.map_cons,List.map_nil,List.sum_cons,List.sum_nil,dO,c1,c2,c3,c9,d3] at oa oi ⊢;omega
theorem J1 (k:Ky):((az k).map (fun p=>p.2.length+p.1.length+6)).sum<=2*yC k+100:=by
 have c3:bm.length=3:=rfl;have c4:nE.length=1:=rfl;have c5:nN.length=1:=rfl;have c6:jj.length=3:=rfl;have c7:nX.length=1:=rfl;have c8:nY.length=1:=rfl;have c9:nK.length=1:=rfl;have d1:jw.length=3:=rfl;have d2:qB.length=2:=rfl;have d3:eH.length=3:=rfl;have d4:gQ.length=5:=rfl;unfold az yC;split
 ·simp only [List.map_cons,List.map_nil,List.sum_cons,List.sum_nil,dO,c3,c4,c5,d1];omega
 ·split
  ·simp only [List.map_cons,List.map_nil,List.sum_cons,List.sum_nil,dO,c3,c6,c7,c8,d2,d4];omega
  ·simp only [List.map_cons,List.map_nil,List.sum_cons,List.sum_nil,dO,c3,c9,d3];omega
theorem Ej (l:List (Bs×Bs)):iY (cE l)=5+(l.map (fun p=>p.2.length+p.1.length+6)).sum:=by
 have:=vq l;rw [cE];simp only [iY,List.length_nil];omega
theorem RD (k:Ky):iY (lr k)<=2*yC k+105:=by
 have:=Gc k;rw [lr,Ej];omega
theorem zK (k:Ky):iY (bD k)<=2*yC k+105:=by
 have:=J1 k;rw [bD,Ej];omega
def jF (out:List Ky) (k:Ky):Bool:=out.any (fun o=>decide (o.kid=k.kid)&&decide (k.kid≠[]))
theorem Cn (l:List Ky) (o k:Ky):jF (l++[o]) k=(jF l k || (decide (o.kid=k.kid)&&decide (k.kid≠[]))):=by simp [jF]
def jS (k:Ky):Bs:=aX (eP (cu (bD k)).1)
def gY:Bs:=[89,81]
def gS1:Bs:=[123,34,107,34,58,34,89,81,34,44,34,107,116,121,34,58,34,111,99,116,34,44,34,120,34,58,49,125]
def gS2:Bs:=[123,34,107,34,58,34,89,81,34,44,34,107,116,121,34,58,34,111,99,116,34,44,34,107,105,100,34,58,34,34,125]
def gS3:Bs:=[123,34,107,101,121,115,34,58,91,93,125]
def gT1:Bs:=[123,34,107,34,58,34,89,81,34,44,34,107,105,100,34,58,34,49,34,44,34,107,116,121,34,58,34,111,99,116,34,125]
def J3:Bs:=[123,34,107,34,58,34,89,81,34,44,34,107,116,121,34,58,34,111,99,116,34,125]
def RA:Jv:=.mk 6 0 [] [textJ gY,textJ eH,.mk 3 1 [] [] []] [nK,bm,nX]
def RB:Jv:=.mk 6 0 [] [textJ gY,textJ eH,textJ []] [nK,bm,cD]
def P6:Jv:=.mk 6 0 [] [.mk 5 0 [] [] []] [kg]
def gk:Ky:=⟨2,[49],[],[],[],[],[],[97]⟩
def gk1:Ky:=⟨2,[],[],[],[],[],[],[97]⟩
theorem gp1:gX gS1=.ok RA:=by kernel_rfl
theorem gp2:gX gS2=.ok RB:=by kernel_rfl
theorem gp3:gX gS3=.ok P6:=by kernel_rfl
theorem go1:DS RA=some gk1:=by kernel_rfl
theorem go2:DS RB=none:=by kernel_rfl
theorem go3:zG P6=none:=by kernel_rfl
theorem gok:cI gk=true:=by kernel_rfl
theorem gv1:lr gk=cE [(nK,gY),(cD,[49]),(bm,eH)]:=by kernel_rfl
theorem gv2:bD gk=cE [(nK,gY),(bm,eH)]:=by kernel_rfl
theorem aaF:aO true [nK,cD,bm] 3=[0,1,2]:=by
 unfold aO;rw [if_pos rfl];exact List.mergeSort_of_pairwise (by decide)
theorem aaG:aO true [nK,bm] 2=[0,1]:=by
 unfold aO;rw [if_pos rfl];exact List.mergeSort_of_pairwise (by decide)
theorem aaH:dr true [nK,cD,bm] (cg [textJ gY,textJ [49],textJ eH])=(aO true [nK,cD,bm] 3).map (kh true [nK,cD,bm] (cg [textJ gY,textJ [49],textJ eH])):=by kernel_rfl
theorem aaI:br (cE [(nK,gY),(cD,[49]),(bm,eH)])=123::(aC (dr true [nK,cD,bm] (cg [textJ gY,textJ [49],textJ eH]))++[125]):=by kernel_rfl
theorem gl1:br (cE [(nK,gY),(cD,[49]),(bm,eH)])=gT1:=by
 rw [aaI,aaH,aaF];kernel_rfl
theorem aaJ:dr true [nK,bm] (cg [textJ gY,textJ eH])=(aO true [nK,bm] 2).map (kh true [nK,bm] (cg [textJ gY,textJ eH])):=by kernel_rfl
theorem aaK:br (cE [(nK,gY),(bm,eH)])=123::(aC (dr true [nK,bm] (cg [textJ gY,textJ eH]))++[125]):=by kernel_rfl
theorem gl2:br (cE [(nK,gY),(bm,eH)])=J3:=by
 rw [aaK,aaJ,aaG];kernel_rfl
theorem gc1:aw 0 (cE [(nK,gY),(cD,[49]),(bm,eH)])=0:=by kernel_rfl
theorem gc2:aw 0 (cE [(nK,gY),(bm,eH)])=0:=by kernel_rfl
theorem gt1:cu (lr gk)=(gT1,0):=by rw [gv1];unfold cu;rw [gc1,gl1];rfl
theorem gt2:cu (bD gk)=(J3,0):=by rw [gv2];unfold cu;rw [gc2,gl2];rfl
theorem gth:jS gk=aX (eP J3):=by rw [jS,gt2]
end Go.Proofs.YtbifjamddbpcjaaGreatDoor
