/- SHA-256, the program's: Sum. -/
import Derived.Test.YtbifjamddbpcjaaGreatDoorGw
import Derived.Test.YtbifjamddbpcjaaGreatDoorGa
namespace Go.Proofs.YtbifjamddbpcjaaGreatDoor
set_option maxRecDepth 100000
set_option maxHeartbeats 25600000
open Go.RowKit
def lenB (n k:Nat):Bs:=(List.range k).map (fun j=>byteP (8*(n:Int) / 2 ^ (56 - 8*j)))
theorem lenB_next (n k:Nat):lenB n (k+1)=lenB n k++[byteP (8*(n:Int) / 2 ^ (56 - 8*k))]:=by
 unfold lenB;rw [List.range_succ,List.map_append];rfl
theorem lenB_len (n k:Nat):(lenB n k).length=k:=by simp [lenB]
def zP (n:Nat):Nat:=(119 - n % 64) % 64
theorem zP_lt (n:Nat):zP n<64:=Nat.mod_lt _ (by decide)
theorem zP_at {n m:Nat} (h:m≤zP n):(n+(m+1)+8) % 64=0 ↔ m=zP n:=by unfold zP at *;omega
def endP (n:Nat):Bs:=(128::List.replicate (zP n) 0)++lenB n 8
def padP (M:Bs):Bs:=M++endP M.length
def sumP (M:Bs):Bs:=toldP (blocksP initP (padP M) ((padP M).length / 64))
theorem sumP_len (M:Bs):(sumP M).length=32:=by rw [sumP,told_len,blocks_len];rfl
theorem hash_one (st:List Int) (buf:Bs) (n:Nat):(hashC st buf n).all (·.oneCell')=true:=by
 rw [Array.all_eq_true_iff_forall_mem]
 intro x hx
 rw [← Array.mem_toList_iff,hash_list] at hx
 simp only [List.mem_append,List.mem_map,List.mem_replicate,List.mem_singleton] at hx
 rcases hx with h|⟨_,_,rfl⟩|⟨_,rfl⟩|⟨_,_,rfl⟩|rfl
 ·exact (Array.all_eq_true_iff_forall_mem.1 (show kindC.all (·.oneCell')=true by simp [Value.oneCell'])) x (by simpa using h)
 all_goals rfl
theorem run_append_make0 (ty:TypeId) (g n c:Nat) (hc:n≤c) (w:World):(Builtin.append_ #[81,3] ty #[.slice (some ⟨g,0,none⟩) n c,.int .i64 0]).run Tryz.prog w=.ok (.slice (some ⟨g,0,none⟩) n c) w:=by
 have h1:Tryz.prog.underlying 81=some (.slice 5):=Tryz.underlying81
 have h2:Tryz.prog.underlying 3=some (.int .i64):=Tryz.underlying3
 obtain ⟨i0,hi0,_,_,hz2⟩:=info_parts info_byteD
 have h0:IntKind.i64.wrap 0=0:=by decide
 simp [Builtin.append_,run_underlying h1,run_underlying h2,sizeOf,typeInfo,hi0,hz2,asInt,asIntOf,h0,hc,storeCells]
theorem step_make0 {ops:Array Oper} {rest:List Oper} {o:Oper} {a:Act} {Q:Exit→Act→World→Prop} {w:World} (hgd:o.guard=none) (sl x:Operand)
  (ho:o.op=.call { callee:=.builtin .append,args := #[sl,x],argTypes := #[81,3] }) (g n c:Nat) (hs:a.eval sl=.slice (some ⟨g,0,none⟩) n c) (hx:a.eval x=.int .i64 0) (hc:n≤c)
  (h:wpList Tryz.prog ops Q rest (a.put o.dst (.slice (some ⟨g,0,none⟩) n c)) w):wpList Tryz.prog ops Q (o::rest) a w:=
 wpList_plain hgd fun _ hK=>by
  have hr:=run_append_make0 o.type g n c hc w
  unfold Oper.wp execOp
  simp only [ho,resolve,invoke,builtin,Sem.run_bind,Sem.run_pure,Result.andThen_ok,List.map_toArray,List.map_cons,List.map_nil,hs,hx,hr]
  exact hK _ _ h
theorem Fr.only_new {a w w':World} {c:Nat} (h:Fr NoB a w) (k:Fr (Only c) w w') (hc:a.heap.size≤c):Fr NoB a w':=
 ⟨by rw [k.os,h.os],by rw [k.tape,h.tape],by rw [k.output,h.output],Nat.le_trans h.size k.size,fun i hi hn=>(k.block i (Nat.lt_of_lt_of_le hi h.size) (fun (e:i=c)=>by omega)).trans (h.block i hi hn)⟩
theorem hsum_any (h:Nat) (M buf:Bs) (w:World) (hk:Hs h M buf w) (hsz:M.length<1099511627776) :
  Calls Tryz.prog 107 #[.pointer (some ⟨h,0,none⟩)] w fun e w'=>e=.returned (.string ⟨(sumP M).toArray⟩)∧Fr NoB w w':=by
 have hst:=Hs.st8 M
 have hb:=hk.b
 have hbl:=hk.l
 have hsz1:=hash_size (blocksP initP M (M.length / 64)) buf M.length hst hbl
 go_enter Tryz.func107,Tryz.ntmps107
 go_upto_region 2 with (first|(refine wpList_load_row rfl 228 _ rfl h rfl 228 _ _ _ hb Tryz.underlying228 rfl (by rw [size_hash,hsz1]) ?_)|(refine wpList_store_row rfl 228 _ _ rfl w.heap.size (hashC (blocksP initP M (M.length / 64)) buf M.length) rfl rfl 228 _ (Blk.new w 228 _) (by rw [size_hash,hsz1]) (by rw [hsz1];rfl) (hash_one _ _ _) ?_))
 have f1:Fr NoB w ((w.alloc (.cells Tryz.zeroCells228 228)).setRow w.heap.size (hashC (blocksP initP M (M.length / 64)) buf M.length)):=((Fr.refl NoB w).alloc _).setRow _ _ (Or.inl (Nat.le_refl _))
 have hk1:=hk.fr f1
 have hc1:Hs w.heap.size M buf ((w.alloc (.cells Tryz.zeroCells228 228)).setRow w.heap.size (hashC (blocksP initP M (M.length / 64)) buf M.length)):=⟨(Blk.new w 228 _).setRow _,hbl,hk.t⟩
 generalize (w.alloc (.cells Tryz.zeroCells228 228)).setRow w.heap.size (hashC (blocksP initP M (M.length / 64)) buf M.length)=W1 at *
 have hlt:=hk.b.lt
 clear hb hk hsz1
 generalize hge:w.heap.size=c at *
 have HGe:=Lib.hid hge
 clear hge
 have b0:=BR.first W1 #[.int .u8 128] [128] rfl (by decide)
 have f2:Fr NoB W1 (W1.alloc (.cells #[.int .u8 128] 5)):=(Fr.refl _ _).alloc _
 go_wp2_with fail
 go_loopw [4] (fun v4 wr=>∃ m:Nat,m≤zP M.length∧BR W1.heap.size wr v4 (128::List.replicate m 0)∧Fr NoB W1 wr) (fun v4 _=>64 - (match v4 with | .slice _ n _=>n|_=>0))
 case atStart=>exact ⟨0,Nat.zero_le _,b0,f2⟩
 case round=>
  clear b0
  obtain ⟨m,hm,hown,hf⟩:=hrel
  have hz:=zP_lt M.length
  have hzi:=zP_at hm
  have hkr:=hk1.fr hf
  obtain ⟨g,cc,rfl,hg1,hg2,_⟩:=hown.sl (by simp)
  have hcv:=hown.conv
  have hcap:m+1≤cc:=by
   rcases hown.2 with ⟨h,h2⟩|⟨g',c',cur,h,_,_,h2,_⟩
   ·simp at h2
   ·simp at h;simp at h2;omega
  have e1:((128:UInt8)::List.replicate m 0).length=m+1:=by simp
  rw [e1] at hown hcv ⊢
  have d0:wr.cell? ⟨h,160,none⟩=some (.int .i64 (M.length:Int)):=hash_n hkr.b hst hbl
  have d1:wr.cell? ⟨h,15,none⟩=some (.int .i64 8):=hash_kind hkr.b 15 (by omega)
  have d2:wr.cell? ⟨h,13,none⟩=some (.int .i64 64):=hash_kind hkr.b 13 (by omega)
  have hmod:((M.length:Int)+((m:Int)+1)+8).tmod 64=(((M.length+(m+1)+8) % 64:Nat):Int):=rfl
  go_upto_if 29 with fail
  go_cut [29] (fun v wx=>v=.bool (!decide (m=zP M.length))∧∃ q,wx=wr.drewN q)
  case first=>
   by_cases hmz:m=zP M.length
   ·have h0:=hzi.2 hmz
    have h0i:((M.length:Int)+((m:Int)+1)+8) % 64=0:=by omega
    have ed:decide (m=zP M.length)=true:=by simp [hmz]
    clear hmz
    generalize (M.length+(m+1)+8) % 64=x at *
    go_region
    all_goals (go_wp2_with fail;go_meet;exact ⟨by rw [ed];rfl,_,rfl⟩)
   ·have h0:¬ (M.length+(m+1)+8) % 64=0:=fun e=>hmz (hzi.1 e)
    generalize (M.length+(m+1)+8) % 64=x at *
    go_region
    all_goals (go_wp2_with fail;go_meet;exact ⟨by simp [hmz,h0],_,rfl⟩)
  case rest=>
  obtain ⟨rfl,q,hq⟩:=hcut
  have hfc:Fr NoB W1 wc:=by rw [hq];exact hf.drewN q
  have hoc:BR W1.heap.size wc (.slice (some ⟨g,0,none⟩) (m+1) cc) (128::List.replicate m 0):=by rw [hq];exact hown.fr ((Fr.refl _ _).drewN q)
  clear hq hown hcv hf d0 d1 d2 hkr
  have hW:=hfc.size
  by_cases hmz:m=zP M.length
  ·have ed:decide (m=zP M.length)=true:=by simp [hmz]
   rw [ed]
   have hkr:=hk1.fr hfc
   have d1:wc.cell? ⟨h,15,none⟩=some (.int .i64 8):=hash_kind hkr.b 15 (by omega)
   rw [hmz] at hoc
   clear hmod hzi
   obtain ⟨E,hE⟩:∃ E,E=(128:UInt8)::List.replicate (zP M.length) 0:=⟨_,rfl⟩
   have hEl:E.length=zP M.length+1:=by rw [hE];simp
   rw [← hE] at hoc
   have HE:=Lib.hid hE
   clear hE
   go_wp2_with (at_builtin;go_loud (refine step_make0 rfl (.tmp 33) (.tmp 39) rfl g (m+1) cc rfl rfl hcap ?_))
   have hk1':=hk1
   clear hk1 hkr d1 ed hm
   have b1:BR W1.heap.size wc (.slice (some ⟨g,0,none⟩) (zP M.length+1) cc) (E++lenB M.length 0):=by simpa [lenB] using hoc
   clear hoc
   go_loopw [4,5] (fun v4 v5 wx=>∃ k:Nat,k≤8∧v5=.int .i64 (56 - 8*(k:Int))∧BR W1.heap.size wx v4 (E++lenB M.length k)∧Fr NoB W1 wx) (fun _ v5 _=>(intOf v5+8).toNat)
   case atStart=>exact ⟨0,by omega,rfl,b1,hfc⟩
   case round=>
    clear b1 hfc
    obtain ⟨k,hkk,rfl,hown,hf⟩:=hrel
    have hWs:=hf.size
    have hkr:=hk1'.fr hf
    by_cases hkt:k<8
    ·have p0:(0:Int)≤56 - 8*(k:Int):=by omega
     have p1:(56 - 8*(k:Int)).toNat=56 - 8*k:=by omega
     have d0:wr.cell? ⟨h,160,none⟩=some (.int .i64 (M.length:Int)):=hash_n hkr.b hst hbl
     have HN:=Lib.hid (lenB_next M.length k)
     have e2:=byteP_nat (8*(M.length:Int) / 2 ^ (56 - 8*k))
     have e2':=e2.symm
     generalize byteP (8*(M.length:Int) / 2 ^ (56 - 8*k))=b8 at *
     clear e2
     have hwl:=lenB_len M.length k
     have fa:Fr NoB wr (wr.alloc (.cells #[.int .u8 (b8.toNat:Int)] 5)):=(Fr.refl _ _).alloc _
     have ownA:=hown.fr fa
     go_wp2_with (at_builtin;go_loud (refine br_row rfl _ _ rfl W1.heap.size u4 _ rfl ownA wr.heap.size 1 1 [b8] rfl rfl (new_cells wr #[.int .u8 (b8.toNat:Int)] [b8] rfl) (by rw [List.length_append,hwl,hEl];simp;omega) (by simp;omega) ?_;intro v4 w4 hown4 hgr))
     go_roundw
     case rel=>exact ⟨k+1,by omega,by congr 1;omega,by rw [HN.out,← List.append_assoc];exact hown4,ownA.grown (hf.trans fa) hgr (Nat.le_refl _)⟩
     case measure=>simp [intOf];omega
    ·have hk8:k=8:=by omega
     have p0:¬ (0:Int)≤56 - 8*(k:Int):=by omega
     rw [hk8] at hown
     have hEe:E++lenB M.length 8=endP M.length:=by rw [HE.out];rfl
     have hel:(endP M.length).length=zP M.length+9:=by rw [← hEe,List.length_append,hEl,lenB_len]
     rw [hEe] at hown
     have hcv:=hown.conv
     have hcr:=hc1.fr hf
     have hne:endP M.length≠[]:=fun e=>by rw [e] at hel;simp at hel
     obtain ⟨g4,c4,rfl,_,_,_⟩:=hown.sl hne
     rw [hel] at hcv
     clear hk8 hkt hkk
     have HW:=Lib.hid (write_any c M buf (endP M.length) wr hcr (by rw [hel];omega))
     have hHr:=hkr
     go_upto_region 11 with (go_at_call 106;go_loud (with_reducible refine HW.out.mono ?_);rintro e' w9 ⟨rfl,buf9,hs9,ho9⟩)
     have hkh:Hs h M buf w9:=⟨ho9.blk hHr.b (fun (e:h=c)=>by omega),hbl,hHr.t⟩
     have d3:w9.cell? ⟨h,0,none⟩=some (.int .i64 32):=hash_kind hkh.b 0 (by omega)
     have hb9:=hs9.b
     have hst9:=Hs.st8 (M++endP M.length)
     have HS9:=Lib.hid (show sumP M=toldP (blocksP initP (M++endP M.length) ((M++endP M.length).length / 64)) from rfl)
     generalize blocksP initP (M++endP M.length) ((M++endP M.length).length / 64)=Z at *
     obtain ⟨a0,a1,a2,a3,a4,a5,a6,a7,rfl⟩:=eight_of hst9
     have HT:Hid (∀ u,Calls Tryz.prog 157 #[.agg #[.int .u32 a0,.int .u32 a1,.int .u32 a2,.int .u32 a3,.int .u32 a4,.int .u32 a5,.int .u32 a6,.int .u32 a7],.agg #[.int .i64 32,.int .i64 7,.int .i64 18,.int .i64 3,.int .i64 17,.int .i64 19,.int .i64 10,.int .i64 6,.int .i64 11,.int .i64 25,.int .i64 2,.int .i64 13,.int .i64 22,.int .i64 64,.int .i64 32,.int .i64 8]] u fun e' w'=>e'=.returned (.string ⟨(toldP [a0,a1,a2,a3,a4,a5,a6,a7]).toArray⟩)∧Fr NoB u w'):=Lib.hid (fun u=>told_any' [a0,a1,a2,a3,a4,a5,a6,a7] u rfl)
     rw [← HS9.out] at HT
     have q0:w9.cell? ⟨c,0,none⟩=some (.int .i64 32):=hash_kind hb9 0 (by omega)
     have q1:w9.cell? ⟨c,1,none⟩=some (.int .i64 7):=hash_kind hb9 1 (by omega)
     have q2:w9.cell? ⟨c,2,none⟩=some (.int .i64 18):=hash_kind hb9 2 (by omega)
     have q3:w9.cell? ⟨c,3,none⟩=some (.int .i64 3):=hash_kind hb9 3 (by omega)
     have q4:w9.cell? ⟨c,4,none⟩=some (.int .i64 17):=hash_kind hb9 4 (by omega)
     have q5:w9.cell? ⟨c,5,none⟩=some (.int .i64 19):=hash_kind hb9 5 (by omega)
     have q6:w9.cell? ⟨c,6,none⟩=some (.int .i64 10):=hash_kind hb9 6 (by omega)
     have q7:w9.cell? ⟨c,7,none⟩=some (.int .i64 6):=hash_kind hb9 7 (by omega)
     have q8:w9.cell? ⟨c,8,none⟩=some (.int .i64 11):=hash_kind hb9 8 (by omega)
     have q9:w9.cell? ⟨c,9,none⟩=some (.int .i64 25):=hash_kind hb9 9 (by omega)
     have q10:w9.cell? ⟨c,10,none⟩=some (.int .i64 2):=hash_kind hb9 10 (by omega)
     have q11:w9.cell? ⟨c,11,none⟩=some (.int .i64 13):=hash_kind hb9 11 (by omega)
     have q12:w9.cell? ⟨c,12,none⟩=some (.int .i64 22):=hash_kind hb9 12 (by omega)
     have q13:w9.cell? ⟨c,13,none⟩=some (.int .i64 64):=hash_kind hb9 13 (by omega)
     have q14:w9.cell? ⟨c,14,none⟩=some (.int .i64 32):=hash_kind hb9 14 (by omega)
     have q15:w9.cell? ⟨c,15,none⟩=some (.int .i64 8):=hash_kind hb9 15 (by omega)
     have r0:w9.cell? ⟨c,16,none⟩=some (.int .u32 a0):=hash_st hb9 rfl 0 (by omega)
     have r1:w9.cell? ⟨c,17,none⟩=some (.int .u32 a1):=hash_st hb9 rfl 1 (by omega)
     have r2:w9.cell? ⟨c,18,none⟩=some (.int .u32 a2):=hash_st hb9 rfl 2 (by omega)
     have r3:w9.cell? ⟨c,19,none⟩=some (.int .u32 a3):=hash_st hb9 rfl 3 (by omega)
     have r4:w9.cell? ⟨c,20,none⟩=some (.int .u32 a4):=hash_st hb9 rfl 4 (by omega)
     have r5:w9.cell? ⟨c,21,none⟩=some (.int .u32 a5):=hash_st hb9 rfl 5 (by omega)
     have r6:w9.cell? ⟨c,22,none⟩=some (.int .u32 a6):=hash_st hb9 rfl 6 (by omega)
     have r7:w9.cell? ⟨c,23,none⟩=some (.int .u32 a7):=hash_st hb9 rfl 7 (by omega)
     have fz:Fr NoB w w9:=(f1.trans hf).only_new ho9 (by rw [HGe.out];exact Nat.le_refl _)
     go_wp2_with (go_at_call 157;((with_reducible refine (HT.out _).mono ?_);rintro e' w10 ⟨rfl,f10⟩))
     go_ret
     exact ⟨rfl,fz.trans f10⟩
  ·have ed:decide (m=zP M.length)=false:=by simp [hmz]
   rw [ed]
   have fa:Fr NoB wc (wc.alloc (.cells #[.int .u8 0] 5)):=(Fr.refl _ _).alloc _
   have ownA:=hoc.fr fa
   go_wp2_with (at_builtin;go_loud (refine br_row rfl _ _ rfl W1.heap.size (.slice (some ⟨g,0,none⟩) (m+1) cc) _ rfl ownA wc.heap.size 1 1 [0] rfl rfl (new_cells wc #[.int .u8 0] [0] rfl) (by simp;omega) (by simp;omega) ?_;intro v4 w4 hown4 hgr))
   go_roundw
   case rel=>exact ⟨m+1,by omega,by rw [List.replicate_succ'];exact hown4,ownA.grown (hfc.trans fa) hgr (Nat.le_refl _)⟩
   case measure=>
    obtain ⟨g5,c5,rfl,_,_,_⟩:=hown4.sl (by simp)
    simp;omega
theorem sum0_any (s:Bs) (w:World) (hs:s.length<1099511627776) :
  Calls Tryz.prog 64 #[.int .i64 0,.string ⟨s.toArray⟩] w fun e w'=>e=.returned (.tuple #[.string ⟨(sumP s).toArray⟩,.int .i64 0])∧Fr NoB w w':=by
 go_enter Tryz.func64,Tryz.ntmps64
 go_upto_region 4 with (go_at_call 105;((with_reducible refine (new_any _).mono ?_);rintro e w1 ⟨h,rfl,hh,hb,f1⟩))
 have hk:Hs h [] (List.replicate 128 0) w1:=⟨hb,by simp,rfl⟩
 have HW:=Lib.hid (write_any h [] (List.replicate 128 0) s w1 hk (by simp;omega))
 clear hb
 go_upto_region 5 with (go_at_call 106;(with_reducible refine HW.out.mono ?_);rintro e w2 ⟨rfl,buf,hk2,f2⟩)
 have f12:=f1.only_new f2 hh
 rw [List.nil_append] at hk2
 have HS:=Lib.hid (hsum_any h s buf w2 hk2 hs)
 go_wp2_with (go_at_call 107;(with_reducible refine HS.out.mono ?_);rintro e w3 ⟨rfl,f3⟩)
 go_ret2
 exact ⟨rfl,f12.trans f3⟩
theorem sum256_any (s:Bs) (w:World) (hs:s.length<1099511627776) :
  Calls Tryz.prog 31 #[.string ⟨s.toArray⟩] w fun e w'=>e=.returned (.string ⟨(sumP s).toArray⟩)∧Fr NoB w w':=by
 go_enter Tryz.func31,Tryz.ntmps31
 go_wp2_with (go_at_call 64;(with_reducible refine (sum0_any s _ hs).mono ?_);rintro e w3 ⟨rfl,f3⟩)
 go_ret
 exact ⟨rfl,f3⟩
end Go.Proofs.YtbifjamddbpcjaaGreatDoor
