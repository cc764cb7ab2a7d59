/- SHA-256, the program's: a Hash in memory, plainly. -/
import Derived.Test.YtbifjamddbpcjaaGreatDoorGc
namespace Go.Proofs.YtbifjamddbpcjaaGreatDoor
set_option maxRecDepth 100000
set_option maxHeartbeats 25600000
open Go.RowKit
theorem ib (st:List Int) (buf:Bs) (n:Nat):(hashC st buf n).toList=kindC.toList++(st.map (Value.int .u32)++(List.replicate 8 (Value.int .u64 0)++(bC buf++[.int .i64 (n:Int)]))):=by
 simp [hashC]
theorem au {w:World} {h:Nat} {st:List Int} {buf:Bs} {n:Nat} (hb:Blk w h 228 (hashC st buf n)) (i:Nat) (hi:i<16):w.cell? ⟨h,i,none⟩=kindC[i]?:=by
 rw [hb.cell,<- Array.getElem?_toList,ib,List.getElem?_append_left (by simpa using hi),Array.getElem?_toList]
theorem LP:kindC.toList.length=16:=rfl
theorem mK (st:List Int) (buf:Bs) (n:Nat):∃ P:List Value,P.length=16/\kindC.toList=P/\(hashC st buf n).toList=P++(st.map (Value.int .u32)++(List.replicate 8 (Value.int .u64 0)++(bC buf++[.int .i64 (n:Int)]))):=⟨_,LP,rfl,ib st buf n⟩
theorem bB {w:World} {h:Nat} {st:List Int} {buf:Bs} {n:Nat} (hb:Blk w h 228 (hashC st buf n)) (cj:st.length=8) (i:Nat) (hi:i<8):w.cell? ⟨h,16+i,none⟩=some (.int .u32 (st.getD i 0)):=by
 obtain ⟨P,hP,_,e⟩:=mK st buf n;rw [hb.cell,<- Array.getElem?_toList,e,List.getElem?_append_right (by omega),List.getElem?_append_left (by rw [List.length_map];omega),hP,Nat.add_sub_cancel_left,List.getElem?_map,List.getElem?_eq_getElem (by omega),List.getD_eq_getElem?_getD,List.getElem?_eq_getElem (by omega)];rfl
theorem LQ {w:World} {h:Nat} {st:List Int} {buf:Bs} {n:Nat} (hb:Blk w h 228 (hashC st buf n)) (cj:st.length=8) (ju:buf.length=128) (i:Nat) (hi:i<128):w.cell? ⟨h,32+i,none⟩=some (.int .u8 ((buf.getD i 0).toNat:Int)):=by
 obtain ⟨P,hP,_,e⟩:=mK st buf n;rw [hb.cell,<- Array.getElem?_toList,e,List.getElem?_append_right (by omega),List.getElem?_append_right (by rw [List.length_map];omega),List.getElem?_append_right (by rw [List.length_map,List.length_replicate];omega),List.getElem?_append_left (by rw [List.length_map,List.length_map,List.length_replicate];omega)];rw [List.length_map,List.length_replicate,hP,cj,show 32+i - 16 - 8 - 8=i by omega,List.getElem?_map,List.getElem?_eq_getElem (by omega),List.getD_eq_getElem?_getD,List.getElem?_eq_getElem (by omega)];rfl
theorem tc {w:World} {h:Nat} {st:List Int} {buf:Bs} {n:Nat} (hb:Blk w h 228 (hashC st buf n)) (cj:st.length=8) (ju:buf.length=128):w.cell? ⟨h,160,none⟩=some (.int .i64 (n:Int)):=by
 obtain ⟨P,hP,_,e⟩:=mK st buf n;rw [hb.cell,<- Array.getElem?_toList,e,List.getElem?_append_right (by omega),List.getElem?_append_right (by rw [List.length_map];omega),List.getElem?_append_right (by rw [List.length_map,List.length_replicate];omega),List.getElem?_append_right (by rw [List.length_map,List.length_map,List.length_replicate];omega)];simp [hP,cj,ju]
theorem vM (st:List Int) (buf:Bs) (n:Nat) (cj:st.length=8) (ju:buf.length=128):(hashC st buf n).size=161:=by
 obtain ⟨P,hP,_,e⟩:=mK st buf n;rw [<- Array.length_toList,e];simp [hP,cj,ju]
theorem Di (st:List Int) (buf:Bs) (n m:Nat) (cj:st.length=8) (ju:buf.length=128):(hashC st buf n).setIfInBounds 160 (.int .i64 (m:Int))=hashC st buf m:=by
 obtain ⟨P,hP,hk,e⟩:=mK st buf n;apply Array.ext';rw [Array.toList_setIfInBounds,e,ib,hk,List.set_append_right _ _ (by omega),List.set_append_right _ _ (by rw [List.length_map];omega),List.set_append_right _ _ (by rw [List.length_map,List.length_replicate];omega),List.set_append_right _ _ (by rw [List.length_map,List.length_map,List.length_replicate];omega)];simp [hP,cj,ju]
theorem dh (st:List Int) (buf:Bs) (n:Nat) (i:Nat) (x:Int) (cj:st.length=8) (hi:i<8):(hashC st buf n).setIfInBounds (16+i) (.int .u32 x)=hashC (st.set i x) buf n:=by
 obtain ⟨P,hP,hk,e⟩:=mK st buf n;apply Array.ext';rw [Array.toList_setIfInBounds,e,ib,hk,List.set_append_right _ _ (by omega),List.set_append_left _ _ (by rw [List.length_map];omega)];simp [hP]
def lu (buf:Bs) (j:Nat) (t:Bs):Bs:=buf.take j++t++buf.drop (j+t.length)
theorem tI {buf:Bs} {j:Nat} {t:Bs} (h:j+t.length<=buf.length):(lu buf j t).length=buf.length:=by
 simp [lu];omega
theorem Dj {α:Type} (P Q R t:List α) (j:Nat) (h:j+t.length<=Q.length):(P++(Q++R)).take (P.length+j)++t++(P++(Q++R)).drop (P.length+j+t.length)=P++((Q.take j++t++Q.drop (j+t.length))++R):=by
 rw [List.take_length_add_append,Nat.add_assoc,List.drop_length_add_append,List.take_append_of_le_length (by omega),List.drop_append_of_le_length (by omega)];simp [List.append_assoc]
theorem Ie (st:List Int) (buf:Bs) (n j:Nat) (t:Bs) (cj:st.length=8) (hj:j+t.length<=buf.length) :
  ((hashC st buf n).toList.take (32+j)++bC t++(hashC st buf n).toList.drop (32+j+t.length)).toArray=hashC st (lu buf j t) n:=by
 apply Array.ext';rw [ib,ib];have e:=Dj (kindC.toList++(st.map (Value.int .u32)++List.replicate 8 (Value.int .u64 0))) (bC buf) [.int .i64 (n:Int)] (bC t) j (by simpa using hj);have hl:(kindC.toList++(st.map (Value.int .u32)++List.replicate 8 (Value.int .u64 0))).length=32:=by simp [cj]
 rw [hl] at e;simp only [List.length_map] at e;simp only [List.append_assoc] at e ⊢;rw [e];simp [lu,List.map_take,List.map_drop]
def blocksP (st:List Int) (M:Bs):Nat->List Int
 | 0=>st
 | k+1=>jg (blocksP st M k) ((M.drop (64*k)).take 64)
theorem nI (st:List Int) (M:Bs):∀ k,(blocksP st M k).length=st.length
 | 0=>rfl
 | k+1=>by rw [blocksP,rG,nI st M k]
theorem nP (st:List Int) (M t:Bs):∀ k,64*k<=M.length->blocksP st (M++t) k=blocksP st M k
 | 0,_=>rfl
 | k+1,h=>by
  rw [blocksP,blocksP,nP st M t k (by omega),List.drop_append_of_le_length (by omega),List.take_append_of_le_length (by rw [List.length_drop];omega)]
structure Hs (h:Nat) (M buf:Bs) (w:World):Prop where
 b:Blk w h 228 (hashC (blocksP initP M (M.length / 64)) buf M.length)
 l:buf.length=128
 t:buf.take (M.length % 64)=M.drop (64*(M.length / 64))
theorem Hs.st8 (M:Bs):(blocksP initP M (M.length / 64)).length=8:=by rw [nI];rfl
theorem Hs.fr {h:Nat} {M buf:Bs} {w w':World} (k:Hs h M buf w) (f:Fr NoB w w'):Hs h M buf w':=⟨f.blk k.b (fun e=>e),k.l,k.t⟩
theorem AR {buf M:Bs} {t:Bs} (hl:buf.length=128) (ht:buf.take (M.length % 64)=M.drop (64*(M.length / 64))):(lu buf (M.length % 64) t).take (M.length % 64+t.length)=(M++t).drop (64*(M.length / 64)):=by
 rw [lu,List.drop_append_of_le_length (by omega),<- ht];rw [List.take_append_of_le_length (by simp;omega)];rw [List.take_of_length_le (by simp;omega)]
theorem Hs.part {h:Nat} {M buf:Bs} {w w':World} (k:Hs h M buf w) (t:Bs) (hj:M.length % 64+t.length<64) (hb:Blk w' h 228 (hashC (blocksP initP M (M.length / 64)) (lu buf (M.length % 64) t) (M.length+t.length))):Hs h (M++t) (lu buf (M.length % 64) t) w':=by
 have hd:(M++t).length / 64=M.length / 64:=by rw [List.length_append];omega
 have hm:(M++t).length % 64=M.length % 64+t.length:=by rw [List.length_append];omega
 have hl:=k.l;refine ⟨?_,by rw [tI (by omega),hl],?_⟩
 ·rw [hd,nP _ _ _ _ (by omega),List.length_append];exact hb
 ·rw [hd,hm];exact AR k.l k.t
theorem Hs.full {h:Nat} {M buf:Bs} {w w':World} (k:Hs h M buf w) (t:Bs) (hj:M.length % 64+t.length=64) (hb:Blk w' h 228 (hashC (jg (blocksP initP M (M.length / 64)) ((lu buf (M.length % 64) t).take 64)) (lu buf (M.length % 64) t) (M.length+t.length))):Hs h (M++t) (lu buf (M.length % 64) t) w':=by
 have hd:(M++t).length / 64=M.length / 64+1:=by rw [List.length_append];omega
 have hm:(M++t).length % 64=0:=by rw [List.length_append];omega
 have hl:=k.l;have hp:=AR (t:=t) k.l k.t;rw [hj] at hp;refine ⟨?_,by rw [tI (by omega),hl],?_⟩
 ·rw [hd,blocksP,nP _ _ _ _ (by omega),<- hp,List.take_of_length_le (by rw [List.length_take];omega),List.length_append];exact hb
 ·rw [hd,hm,List.take_zero,List.drop_eq_nil_of_le (by rw [List.length_append];omega)]
theorem LR {w:World} {h n:Nat} {buf:Bs} {a0 a1 a2 a3 a4 a5 a6 a7 z0 z1 z2 z3 z4 z5 z6 z7:Int} (hb:Blk w h 228 (hashC [a0,a1,a2,a3,a4,a5,a6,a7] buf n)) :
  Blk ((((((((w.setCell ⟨h,16,none⟩ (.int .u32 z0)).setCell ⟨h,17,none⟩ (.int .u32 z1)).setCell ⟨h,18,none⟩ (.int .u32 z2)).setCell ⟨h,19,none⟩ (.int .u32 z3)).setCell ⟨h,20,none⟩ (.int .u32 z4)).setCell ⟨h,21,none⟩ (.int .u32 z5)).setCell ⟨h,22,none⟩ (.int .u32 z6)).setCell ⟨h,23,none⟩ (.int .u32 z7)) h 228 (hashC [z0,z1,z2,z3,z4,z5,z6,z7] buf n):=by
 have e0:(hashC [a0,a1,a2,a3,a4,a5,a6,a7] buf n).setIfInBounds 16 (.int .u32 z0)=hashC [z0,a1,a2,a3,a4,a5,a6,a7] buf n:=dh _ _ _ 0 z0 rfl (by decide);have e1:(hashC [z0,a1,a2,a3,a4,a5,a6,a7] buf n).setIfInBounds 17 (.int .u32 z1)=hashC [z0,z1,a2,a3,a4,a5,a6,a7] buf n:=dh _ _ _ 1 z1 rfl (by decide);have e2:(hashC [z0,z1,a2,a3,a4,a5,a6,a7] buf n).setIfInBounds 18 (.int .u32 z2)=hashC [z0,z1,z2,a3,a4,a5,a6,a7] buf n:=dh _ _ _ 2 z2 rfl (by decide);have e3:(hashC [z0,z1,z2,a3,a4,a5,a6,a7] buf n).setIfInBounds 19 (.int .u32 z3)=hashC [z0,z1,z2,z3,a4,a5,a6,a7] buf n:=dh _ _ _ 3 z3 rfl (by decide);have e4:(hashC [z0,z1,z2,z3,a4,a5,a6,a7] buf n).setIfInBounds 20 (.int .u32 z4)=hashC [z0,z1,z2,z3,z4,a5,a6,a7] buf n:=dh _ _ _ 4 z4 rfl (by decide);have e5:(hashC [z0,z1,z2,z3,z4,a5,a6,a7] buf n).setIfInBounds 21 (.int .u32 z5)=hashC [z0,z1,z2,z3,z4,z5,a6,a7] buf n:=dh _ _ _ 5 z5 rfl (by decide);have e6:(hashC [z0,z1,z2,z3,z4,z5,a6,a7] buf n).setIfInBounds 22 (.int .u32 z6)=hashC [z0,z1,z2,z3,z4,z5,z6,a7] buf n:=dh _ _ _ 6 z6 rfl (by decide);have e7:(hashC [z0,z1,z2,z3,z4,z5,z6,a7] buf n).setIfInBounds 23 (.int .u32 z7)=hashC [z0,z1,z2,z3,z4,z5,z6,z7] buf n:=dh _ _ _ 7 z7 rfl (by decide);have k0:=hb.aS 16 (.int .u32 z0);rw [e0] at k0;have k1:=k0.aS 17 (.int .u32 z1);rw [e1] at k1;have k2:=k1.aS 18 (.int .u32 z2);rw [e2] at k2;have k3:=k2.aS 19 (.int .u32 z3);rw [e3] at k3;have k4:=k3.aS 20 (.int .u32 z4);rw [e4] at k4;have k5:=k4.aS 21 (.int .u32 z5);rw [e5] at k5;have k6:=k5.aS 22 (.int .u32 z6);rw [e6] at k6;have k7:=k6.aS 23 (.int .u32 z7);rw [e7] at k7;exact k7
theorem Ig:(Tryz.prog.info? 5).map (·.size)=some 1:=by kernel_rfl
theorem vN (h:Nat) (M buf s:Bs) (w:World) (hk:Hs h M buf w) (hsz:M.length+s.length<1152921504606846976) :
  Calls Tryz.prog 106 #[.pointer (some ⟨h,0,none⟩),.string ⟨s.toArray⟩] w fun e w'=>e=.returned (.tuple #[])/\∃ pc,Hs h (M++s) pc w'/\Fr (Only h) w w':=by
 go_enter Tryz.func106,Tryz.ntmps106;go_upto_block 0 with (first|(go_at_call 153;((with_reducible refine (Cw _).mono ?_);rintro e w1 ⟨rfl,hK1,f1⟩))|(go_at_call 154;((with_reducible refine (Cy _).mono ?_);rintro e w2 ⟨⟨v64,rfl⟩,f2⟩)));have f12:=f1.trans f2;have hK2:=f2.blk hK1 (fun e=>e);have WN:=hk.b.lt;have Rm:=hk.fr f12;clear hK1 hk f1 f2;generalize hKb:w.heap.size=kb at *;have HKb:=hd' hKb;clear hKb;go_wp2_with fail;go_loopw [1] (fun v1 wr=>∃ t r pc:Bs,s=t++r/\v1=.string ⟨r.toArray⟩/\Hs h (M++t) pc wr/\Fr (Only h) w2 wr) (fun v1 _=>match v1 with | .string b=>b.size|_=>0)
 case atStart=>exact ⟨[],s,buf,rfl,rfl,by rw [List.append_nil];exact Rm,Fr.refl _ _⟩
 case round=>
  clear Rm;obtain ⟨t,r,pc,hs,rfl,hk,hf⟩:=hrel;have hK:=hf.blk hK2 (fun (e:kb=h)=>by omega);have cj:=Hs.st8 (M++t);have ju:=hk.l;have hb:=hk.b;have hN:(M++t).length+r.length<1152921504606846976:=by rw [hs] at hsz;simp only [List.length_append] at hsz ⊢;omega
  have c160:=tc hb cj ju;have c13:wr.cell? ⟨h,13,none⟩=some (.int .i64 64):=au hb 13 (by omega);have c0:wr.cell? ⟨h,0,none⟩=some (.int .i64 32):=au hb 0 (by omega);by_cases hr:r=[]
  ·subst hr;go_wp2_with fail;go_end0;exact ⟨rfl,pc,by rw [hs,List.append_nil];exact hk,(f12.mono (fun _ _ e=>e.elim)).trans hf⟩
  ·have hie:r.isEmpty=false:=by cases r<;>simp_all
   have hz:(⟨r.toArray⟩:ByteArray).size=r.length:=by show r.toArray.size=_;simp
   have Nb:1<=r.length:=by cases r<;>simp_all
   have hj:(M++t).length % 64<64:=Nat.mod_lt _ (by decide);obtain ⟨k,ua⟩:∃ k,k=Nat.min r.length (64 - (M++t).length % 64):=⟨_,rfl⟩;have IB:1<=k/\k<=r.length/\(M++t).length % 64+k<=64:=by
    (have e1:k<=r.length:=by rw [ua];exact Nat.min_le_left _ _);(have e2:k<=64 - (M++t).length % 64:=by rw [ua];exact Nat.min_le_right _ _);(have e3:1<=k:=by rw [ua];exact Nat.le_min.2 ⟨Nb,by omega⟩);omega
   have lK:(r.take k).length=k:=by rw [List.length_take];omega
   have LU:=Ie (blocksP initP (M++t) ((M++t).length / 64)) pc (M++t).length ((M++t).length % 64) (r.take k) cj (by rw [lK,ju];omega);rw [lK] at LU;have Xz:Hid (∀ w',(M++t).length % 64+k<64->Blk w' h 228 (hashC (blocksP initP (M++t) ((M++t).length / 64)) (lu pc ((M++t).length % 64) (r.take k)) ((M++t).length+k))->Hs h (M++(t++r.take k)) (lu pc ((M++t).length % 64) (r.take k)) w'):=hd' (fun w' h1 h2=>by
    rw [<- List.append_assoc];exact hk.part _ (by rw [lK];exact h1) (by rw [lK];exact h2))
   have Qt:Hid (∀ w',(M++t).length % 64+k=64->Blk w' h 228 (hashC (jg (blocksP initP (M++t) ((M++t).length / 64)) ((lu pc ((M++t).length % 64) (r.take k)).take 64)) (lu pc ((M++t).length % 64) (r.take k)) ((M++t).length+k))->Hs h (M++(t++r.take k)) (lu pc ((M++t).length % 64) (r.take k)) w'):=hd' (fun w' h1 h2=>by
    rw [<- List.append_assoc];exact hk.full _ (by rw [lK];exact h1) (by rw [lK];exact h2))
   have Pk:(lu pc ((M++t).length % 64) (r.take k)).length=128:=by rw [tI (by rw [lK,ju];omega),ju]
   have HA:=hd' hs;clear hs hk;generalize (M++t).length=N at *;generalize blocksP initP (M++t) (N / 64)=ST at *;have Gs:((N:Nat):Int).tmod 64=((N % 64:Nat):Int):=rfl;have XA:((N:Int)+(k:Int)).tmod 64=(((N+k) % 64:Nat):Int):=rfl;have hj2:(N+k) % 64=if N % 64+k<64 then N % 64+k else 0:=by split<;>omega
   generalize N % 64=j at *;have YY:=hd' ua;clear ua;have k0:(0:Int)<=j:=by omega
   have akD:¬ 128=j:=by omega
   have k1:(j:Int)<=64:=by omega
   have kk0:(0:Int)<=k:=by omega
   have kk1:(k:Int)<=r.length:=by omega
   have hex:(⟨r.toArray⟩:ByteArray).extract k r.length=⟨(r.drop k).toArray⟩:=iu r k;generalize MG:lu pc j (r.take k)=uD at *;have HBe:=hd' MG;clear MG;go_upto_region 2 with fail;go_cut [6] (fun v6 wx=>v6=.int .i64 (k:Int)/\Blk wx h 228 (hashC ST uD N)/\Fr (Only h) wr wx)
   case first=>
    go_region_law (refine uE rfl (.tmp 29) (.tmp 30) 81 9 rfl 5 Tryz.underlying81 Ig h (32+j) (64 - j) (128 - j) r rfl rfl (hashC ST pc N) 228 hb k YY.out (by rw [vM _ _ _ cj ju];omega) (hashC ST uD N) LU ?_;intro v3 yT QN);all_goals (go_wp2_with fail;go_meet;exact ⟨rfl,yT,((Fr.refl _ _).drew).trans QN⟩)
   case rest=>
   obtain ⟨rfl,yT,QN⟩:=hcut;clear LU c160 c13 c0 hb;have d160:wc.cell? ⟨h,160,none⟩=some (.int .i64 (N:Int)):=tc yT cj Pk;have z160:wc.frozen? ⟨h,160,none⟩=false:=yT.frozen 160;go_upto_region 6 with fail;have XB:Blk (wc.setCell ⟨h,160,none⟩ (.int .i64 ((N:Int)+(k:Int)))) h 228 (hashC ST uD (N+k)):=by
    have:=yT.aS 160 (.int .i64 ((N+k:Nat):Int));rw [Di _ _ _ _ cj Pk,Int.natCast_add] at this;exact this
   have OI:Fr (Only h) wr (wc.setCell ⟨h,160,none⟩ (.int .i64 ((N:Int)+(k:Int)))):=QN.only _;generalize wc.setCell ⟨h,160,none⟩ (.int .i64 ((N:Int)+(k:Int)))=W4 at *;go_cut [60] (fun v wx=>v=.bool (decide (j+k<64))/\Blk wx h 228 (hashC ST uD (N+k))/\Fr (Only h) wr wx)
   case first=>
    (have c1:W4.cell? ⟨h,160,none⟩=some (.int .i64 ((N:Int)+(k:Int))):=by rw [<- Int.natCast_add];exact tc XB cj Pk);have c2:W4.cell? ⟨h,13,none⟩=some (.int .i64 64):=au XB 13 (by omega);have af9:((N+k:Nat):Int).tmod 64=(((N+k) % 64:Nat):Int):=rfl;by_cases hlt:j+k<64
    ·rw [if_pos hlt] at hj2;(have g0:(0:Int)<(((N+k) % 64:Nat):Int):=by omega);generalize (N+k) % 64=x at *;go_region;all_goals (go_wp2_with fail;go_meet;exact ⟨by simp [hlt];omega,XB,OI.drewN _⟩)
    ·rw [if_neg hlt] at hj2;(have g0:¬ (0:Int)<(((N+k) % 64:Nat):Int):=by omega);generalize (N+k) % 64=x at *;go_region;all_goals (go_wp2_with fail;go_meet;exact ⟨by simp [hlt],XB,OI.drewN _⟩)
   case rest=>
   obtain ⟨rfl,mO,ho5⟩:=hcut;by_cases hlt:j+k<64
   ·(have e:decide (j+k<64)=true:=by simp [hlt]);rw [e];go_wp2_with fail;go_roundw
    case rel=>exact ⟨t++r.take k,r.drop k,uD,by rw [HA.out,List.append_assoc,List.take_append_drop],rfl,Xz.out _ hlt mO,hf.trans ho5⟩
    case measure=>
     show (r.drop k).toArray.size<r.toArray.size;simp;omega
   ·(have e:decide (j+k<64)=false:=by simp [hlt]);rw [e];clear XB OI yT QN hj2 Gs XA hex;obtain ⟨a0,a1,a2,a3,a4,a5,a6,a7,rfl⟩:=nZ cj;(have hZl:(jg [a0,a1,a2,a3,a4,a5,a6,a7] (uD.take 64)).length=8:=by rw [rG];rfl);have HF:=hd' (Qt.out);have HNx:Hid (∀ u,Fr NoB wc u->Calls Tryz.prog 155 #[.agg (u32C [a0,a1,a2,a3,a4,a5,a6,a7]),.slice (some ⟨h,32,none⟩) 64 128,.slice (some ⟨kb,0,none⟩) 64 64,.agg kindC] u fun e' w'=>e'=.returned (.agg (u32C (jg [a0,a1,a2,a3,a4,a5,a6,a7] (uD.take 64))))/\Fr NoB u w'):=hd' (fun u fu=>I8 [a0,a1,a2,a3,a4,a5,a6,a7] (uD.take 64) h 32 128 kb 64 u rfl (by omega) (fu.blk mO (fun e=>e)).lt (fun i hi=>by
     rw [LQ (fu.blk mO (fun e=>e)) rfl Pk i (by omega),List.getD_eq_getElem?_getD,List.getD_eq_getElem?_getD,List.getElem?_take_of_lt hi]) (fu.blk (ho5.blk hK (fun (e:kb=h)=>by omega)) (fun e=>e)))
    clear Qt;generalize jg [a0,a1,a2,a3,a4,a5,a6,a7] (uD.take 64)=Z at *;obtain ⟨z0,z1,z2,z3,z4,z5,z6,z7,rfl⟩:=nZ hZl;have HNy:Hid (∀ u,Fr NoB wc u->Calls Tryz.prog 155 #[.agg #[.int .u32 a0,.int .u32 a1,.int .u32 a2,.int .u32 a3,.int .u32 a4,.int .u32 a5,.int .u32 a6,.int .u32 a7],.slice (some ⟨h,32,none⟩) 64 128,.slice (some ⟨kb,0,none⟩) 64 64,.agg #[.int .i64 32,.int .i64 7,.int .i64 18,.int .i64 3,.int .i64 17,.int .i64 19,.int .i64 10,.int .i64 6,.int .i64 11,.int .i64 25,.int .i64 2,.int .i64 13,.int .i64 22,.int .i64 64,.int .i64 32,.int .i64 8]] u fun e' w'=>e'=.returned (.agg #[.int .u32 z0,.int .u32 z1,.int .u32 z2,.int .u32 z3,.int .u32 z4,.int .u32 z5,.int .u32 z6,.int .u32 z7])/\Fr NoB u w'):=hd' HNx.out;clear HNx;have q0:wc.cell? ⟨h,0,none⟩=some (.int .i64 32):=au mO 0 (by omega);have q1:wc.cell? ⟨h,1,none⟩=some (.int .i64 7):=au mO 1 (by omega);have q2:wc.cell? ⟨h,2,none⟩=some (.int .i64 18):=au mO 2 (by omega);have q3:wc.cell? ⟨h,3,none⟩=some (.int .i64 3):=au mO 3 (by omega);have q4:wc.cell? ⟨h,4,none⟩=some (.int .i64 17):=au mO 4 (by omega);have q5:wc.cell? ⟨h,5,none⟩=some (.int .i64 19):=au mO 5 (by omega);have q6:wc.cell? ⟨h,6,none⟩=some (.int .i64 10):=au mO 6 (by omega);have q7:wc.cell? ⟨h,7,none⟩=some (.int .i64 6):=au mO 7 (by omega);have q8:wc.cell? ⟨h,8,none⟩=some (.int .i64 11):=au mO 8 (by omega);have q9:wc.cell? ⟨h,9,none⟩=some (.int .i64 25):=au mO 9 (by omega);have YS:wc.cell? ⟨h,10,none⟩=some (.int .i64 2):=au mO 10 (by omega);have YT:wc.cell? ⟨h,11,none⟩=some (.int .i64 13):=au mO 11 (by omega);have q12:wc.cell? ⟨h,12,none⟩=some (.int .i64 22):=au mO 12 (by omega);have q13:wc.cell? ⟨h,13,none⟩=some (.int .i64 64):=au mO 13 (by omega);have q14:wc.cell? ⟨h,14,none⟩=some (.int .i64 32):=au mO 14 (by omega);have q15:wc.cell? ⟨h,15,none⟩=some (.int .i64 8):=au mO 15 (by omega);have r0:wc.cell? ⟨h,16,none⟩=some (.int .u32 a0):=bB mO rfl 0 (by omega);have r1:wc.cell? ⟨h,17,none⟩=some (.int .u32 a1):=bB mO rfl 1 (by omega);have r2:wc.cell? ⟨h,18,none⟩=some (.int .u32 a2):=bB mO rfl 2 (by omega);have r3:wc.cell? ⟨h,19,none⟩=some (.int .u32 a3):=bB mO rfl 3 (by omega);have r4:wc.cell? ⟨h,20,none⟩=some (.int .u32 a4):=bB mO rfl 4 (by omega);have r5:wc.cell? ⟨h,21,none⟩=some (.int .u32 a5):=bB mO rfl 5 (by omega);have r6:wc.cell? ⟨h,22,none⟩=some (.int .u32 a6):=bB mO rfl 6 (by omega);have r7:wc.cell? ⟨h,23,none⟩=some (.int .u32 a7):=bB mO rfl 7 (by omega);go_upto_region 8 with fail;go_region_with ((go_at_call 155;(with_reducible refine (HNy.out _ ?_).mono ?_);(first|exact (Fr.refl _ _).drew|skip);rintro e' w7 ⟨rfl,f7⟩;have yi:=((Fr.refl NoB wc).drew.trans f7).blk mO (fun e=>e);have ho7:=ho5.trans (((Fr.refl NoB wc).drew.trans f7).mono (fun _ _ e=>e.elim));have y0:w7.cell? ⟨h,16,none⟩=some (.int .u32 a0):=bB yi rfl 0 (by omega);have x0:w7.frozen? ⟨h,16,none⟩=false:=yi.frozen 16;have y1:w7.cell? ⟨h,17,none⟩=some (.int .u32 a1):=bB yi rfl 1 (by omega);have x1:w7.frozen? ⟨h,17,none⟩=false:=yi.frozen 17;have y2:w7.cell? ⟨h,18,none⟩=some (.int .u32 a2):=bB yi rfl 2 (by omega);have x2:w7.frozen? ⟨h,18,none⟩=false:=yi.frozen 18;have y3:w7.cell? ⟨h,19,none⟩=some (.int .u32 a3):=bB yi rfl 3 (by omega);have x3:w7.frozen? ⟨h,19,none⟩=false:=yi.frozen 19;have y4:w7.cell? ⟨h,20,none⟩=some (.int .u32 a4):=bB yi rfl 4 (by omega);have x4:w7.frozen? ⟨h,20,none⟩=false:=yi.frozen 20;have y5:w7.cell? ⟨h,21,none⟩=some (.int .u32 a5):=bB yi rfl 5 (by omega);have x5:w7.frozen? ⟨h,21,none⟩=false:=yi.frozen 21;have y6:w7.cell? ⟨h,22,none⟩=some (.int .u32 a6):=bB yi rfl 6 (by omega);have x6:w7.frozen? ⟨h,22,none⟩=false:=yi.frozen 22;have y7:w7.cell? ⟨h,23,none⟩=some (.int .u32 a7):=bB yi rfl 7 (by omega);have x7:w7.frozen? ⟨h,23,none⟩=false:=yi.frozen 23));all_goals
     go_wp2_with fail;go_roundw
     case rel=>exact ⟨t++r.take k,r.drop k,uD,by rw [HA.out,List.append_assoc,List.take_append_drop],rfl,HF.out _ (by omega) (LR yi),hf.trans ((((((((ho7.only _).only _).only _).only _).only _).only _).only _).only _)⟩
     case measure=>
      show (r.drop k).toArray.size<r.toArray.size;simp;omega
end Go.Proofs.YtbifjamddbpcjaaGreatDoor
