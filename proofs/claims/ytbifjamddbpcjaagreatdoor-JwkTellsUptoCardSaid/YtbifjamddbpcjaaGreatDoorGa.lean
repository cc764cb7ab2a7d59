/- SHA-256, the program's: mixed. -/
import Derived.Test.YtbifjamddbpcjaaGreatDoorYd
namespace Go.Proofs.YtbifjamddbpcjaaGreatDoor
set_option maxRecDepth 100000
set_option maxHeartbeats 25600000
open Go.RowKit
def lN (x:Int) (n:Nat):Int:=bits .or .u32 (x / 2 ^ n) (x*2 ^ (32 - n) % 4294967296)
def jM (x:Int) (a b c:Nat) (sh:Bool):Int:=bits .xor .u32 (bits .xor .u32 (lN x a) (lN x b)) (if sh then x / 2 ^ c else lN x c)
theorem sM (px pb:Nat) (x:Int) (n:Nat) (w:World) (hx:Blk w px 155 #[.int .u32 x]) (hb:Blk w pb 3 #[.int .i64 32]) (hn:n<=32) :
  Calls Tryz.prog 232 #[.int .i64 n,.pointer (some ⟨px,0,none⟩),.pointer (some ⟨pb,0,none⟩)] w fun e w'=>e=.returned (.int .u32 (lN x n))/\∃ m,w'=w.drewN m:=by
 have c0:w.cell? ⟨px,0,none⟩=some (.int .u32 x):=(hx.cell 0).trans rfl;have c1:w.cell? ⟨pb,0,none⟩=some (.int .i64 32):=(hb.cell 0).trans rfl;have k0:(0:Int)<=n:=by omega
 have k1:(0:Int)<=32 - n:=by omega
 have k2:(32 - (n:Int)).toNat=32 - n:=by omega
 have k3:IntKind.i64.wrap (32 - (n:Int))=32 - (n:Int):=IntWalk.i64_in _ (by omega);go_enter Tryz.func232,Tryz.ntmps232;go_wp2_with fail;go_quiet (fail);go_wp2_with fail;go_ret;exact ⟨rfl,nq,rfl⟩
theorem mj (x:Int) (a b c:Nat) (sh:Bool) (w:World) (ha:a<=32) (hb:b<=32) (hc:c<=32) :
  Calls Tryz.prog 195 #[.int .u32 x,.agg #[.int .i64 a,.int .i64 b,.int .i64 c],.int .i64 32,.bool sh] w fun e w'=>e=.returned (.int .u32 (jM x a b c sh))/\Fr NoB w w':=by
 have g0:Blk (((w.alloc (.cells #[.int .u32 x] 155)).alloc (.cells #[.int .i64 a,.int .i64 b,.int .i64 c] 101)).alloc (.cells #[.int .i64 32] 3)) w.heap.size 155 #[.int .u32 x]:=((Blk.new w _ _).alloc _).alloc _;have g1:Blk (((w.alloc (.cells #[.int .u32 x] 155)).alloc (.cells #[.int .i64 a,.int .i64 b,.int .i64 c] 101)).alloc (.cells #[.int .i64 32] 3)) (w.heap.size+1) 101 #[.int .i64 a,.int .i64 b,.int .i64 c]:=by
  have:=(Blk.new (w.alloc (.cells #[.int .u32 x] 155)) 101 #[.int .i64 a,.int .i64 b,.int .i64 c]).alloc (.cells #[.int .i64 32] 3);simpa using this
 have g2:Blk (((w.alloc (.cells #[.int .u32 x] 155)).alloc (.cells #[.int .i64 a,.int .i64 b,.int .i64 c] 101)).alloc (.cells #[.int .i64 32] 3)) (w.heap.size+2) 3 #[.int .i64 32]:=by
  have:=Blk.new ((w.alloc (.cells #[.int .u32 x] 155)).alloc (.cells #[.int .i64 a,.int .i64 b,.int .i64 c] 101)) 3 #[.int .i64 32];simpa using this
 have f0:Fr NoB w (((w.alloc (.cells #[.int .u32 x] 155)).alloc (.cells #[.int .i64 a,.int .i64 b,.int .i64 c] 101)).alloc (.cells #[.int .i64 32] 3)):=(((Fr.refl _ _).alloc _).alloc _).alloc _;generalize hW:((w.alloc (.cells #[.int .u32 x] 155)).alloc (.cells #[.int .i64 a,.int .i64 b,.int .i64 c] 101)).alloc (.cells #[.int .i64 32] 3)=W at *;have HW:=hd' hW;clear hW;have c0:W.cell? ⟨w.heap.size,0,none⟩=some (.int .u32 x):=(g0.cell 0).trans rfl;have c1:W.cell? ⟨w.heap.size+1,0,none⟩=some (.int .i64 a):=(g1.cell 0).trans rfl;have c2:W.cell? ⟨w.heap.size+1,1,none⟩=some (.int .i64 b):=(g1.cell 1).trans rfl;have c3:W.cell? ⟨w.heap.size+1,2,none⟩=some (.int .i64 c):=(g1.cell 2).trans rfl;have HM:∀ (u:World) (n:Nat),Blk u w.heap.size 155 #[.int .u32 x]->Blk u (w.heap.size+2) 3 #[.int .i64 32]->n<=32->Hid (∀ q:Nat,Calls Tryz.prog 232 #[.int .i64 n,.pointer (some ⟨w.heap.size,0,none⟩),.pointer (some ⟨w.heap.size+2,0,none⟩)] (u.drewN q) fun e w'=>e=.returned (.int .u32 (lN x n))/\∃ m,w'=(u.drewN q).drewN m):=fun u n h0 h2 hn=>hd' (fun q=>sM _ _ x n _ (h0.drewN q) (h2.drewN q) hn);have k0:(0:Int)<=c:=by omega
 cases sh with
 | true=>
  have HX:Hid (jM x a b c true=bits .xor .u32 (bits .xor .u32 (lN x a) (lN x b)) (x / 2 ^ c)):=hd' rfl;have HA:=HM W a g0 g2 ha;have HB:=HM W b g0 g2 hb;clear HM;generalize lN x a=ra at *;generalize lN x b=rb at *;go_enter Tryz.func195,Tryz.ntmps195;go_wp2_with (rw [HW.out]);go_quiet (first|(go_at_call 232;with_reducible exact Calls.quiet_of (HA.out _))|(go_at_call 232;with_reducible exact Calls.quiet_of (HB.out _)));go_wp2_with fail;go_ret;refine ⟨?_,f0.drewN _⟩;rw [HX.out];rfl
 | false=>
  have HX:Hid (jM x a b c false=bits .xor .u32 (bits .xor .u32 (lN x a) (lN x b)) (lN x c)):=hd' rfl;have HC:=hd' (sM w.heap.size (w.heap.size+2) x c W g0 g2 hc);have Qb:=hd' (fun u (h0:Blk u w.heap.size 155 #[.int .u32 x]) (h2:Blk u (w.heap.size+2) 3 #[.int .i64 32])=>And.intro (HM u a h0 h2 ha) (HM u b h0 h2 hb));clear HM;generalize lN x a=ra at *;generalize lN x b=rb at *;generalize lN x c=rc at *;go_enter Tryz.func195,Tryz.ntmps195;go_upto_region 5 with (first|(rw [HW.out])|(go_at_call 232;((with_reducible refine HC.out.mono ?_);rintro e w1 ⟨rfl,rI⟩;have qR:=hd' rI;clear rI)));obtain ⟨m,hm⟩:=qR.out;have Gf:Blk w1 w.heap.size 155 #[.int .u32 x]:=by rw [hm];exact g0.drewN m
  have RR:Blk w1 (w.heap.size+1) 101 #[.int .i64 a,.int .i64 b,.int .i64 c]:=by rw [hm];exact g1.drewN m
  have Uw:Blk w1 (w.heap.size+2) 3 #[.int .i64 32]:=by rw [hm];exact g2.drewN m
  have f1:Fr NoB w w1:=by rw [hm];exact f0.drewN m
  have d0:w1.cell? ⟨w.heap.size,0,none⟩=some (.int .u32 x):=(Gf.cell 0).trans rfl;have d1:w1.cell? ⟨w.heap.size+1,0,none⟩=some (.int .i64 a):=(RR.cell 0).trans rfl;have d2:w1.cell? ⟨w.heap.size+1,1,none⟩=some (.int .i64 b):=(RR.cell 1).trans rfl;obtain ⟨HA,HB⟩:=Qb.out w1 Gf Uw;clear hm;go_quiet (first|(go_at_call 232;with_reducible exact Calls.quiet_of (HA.out _))|(go_at_call 232;with_reducible exact Calls.quiet_of (HB.out _)));go_wp2_with fail;go_ret;refine ⟨?_,f1.drewN _⟩;rw [HX.out];rfl
abbrev kindC:Array Value := #[.int .i64 32,.int .i64 7,.int .i64 18,.int .i64 3,.int .i64 17,.int .i64 19,.int .i64 10,.int .i64 6,.int .i64 11,.int .i64 25,.int .i64 2,.int .i64 13,.int .i64 22,.int .i64 64,.int .i64 32,.int .i64 8]
theorem vr:(Tryz.prog.info? 222).map (·.size)=some 16:=by kernel_rfl
theorem mh:(Tryz.prog.info? 224).map (·.size)=some 8:=by kernel_rfl
theorem vt:(Tryz.prog.info? 228).map (·.size)=some 161:=by kernel_rfl
theorem Gg {fn:Func} (h:fn.results = #[.cell 0 222]) (tmps:Array Value) (w:World) (g:Nat) (hp:tmps.getD 0 undef=.pointer (some ⟨g,0,none⟩)) (hb:Blk w g 222 kindC) :
  (results fn tmps).run Tryz.prog w=.ok (.agg kindC) w:=results_cell_row h tmps w g _ _ _ _ hp hb Tryz.underlying222 rfl vr
theorem Cv (w:World):Calls Tryz.prog 151 #[] w fun e w'=>e=.returned (.agg kindC)/\Fr NoB w w':=by
 have g0:=Blk.new w 222 (#[.int .i64 0,.int .i64 0,.int .i64 0,.int .i64 0,.int .i64 0,.int .i64 0,.int .i64 0,.int .i64 0,.int .i64 0,.int .i64 0,.int .i64 0,.int .i64 0,.int .i64 0,.int .i64 0,.int .i64 0,.int .i64 0]:Array Value);have gA:=g0.setRow kindC;go_enter Tryz.func151,Tryz.ntmps151;go_wp2_with (refine wpList_store_row rfl 222 _ _ rfl w.heap.size kindC rfl rfl 222 _ g0 vr rfl (by simp [Value.oneCell']) ?_);exact bodyPost_ret (v:=.agg kindC) (Gg rfl _ _ w.heap.size rfl gA) rfl ⟨rfl,((Fr.refl NoB w).alloc _).setRow w.heap.size _ (Or.inl (Nat.le_refl _))⟩
def jf:List Int:=[1116352408,1899447441,3049323471,3921009573,961987163,1508970993,2453635748,2870763221,3624381080,310598401,607225278,1426881987,1925078388,2162078206,2614888103,3248222580,3835390401,4022224774,264347078,604807628,770255983,1249150122,1555081692,1996064986,2554220882,2821834349,2952996808,3210313671,3336571891,3584528711,113926993,338241895,666307205,773529912,1294757372,1396182291,1695183700,1986661051,2177026350,2456956037,2730485921,2820302411,3259730800,3345764771,3516065817,3600352804,4094571909,275423344,430227734,506948616,659060556,883997877,958139571,1322822218,1537002063,1747873779,1955562222,2024104815,2227730452,2361852424,2428436474,2756734187,3204031479,3329325298]
abbrev u32C (l:List Int):Array Value:=(l.map (Value.int .u32)).toArray
theorem Cw (w:World):Calls Tryz.prog 153 #[] w fun e w'=>e=.returned (.slice (some ⟨w.heap.size,0,none⟩) 64 64)/\Blk w' w.heap.size 155 (u32C jf)/\Fr NoB w w':=by
 have g0:=Blk.new w 155 (u32C jf);go_enter Tryz.func153,Tryz.ntmps153;go_wp2_with fail;go_ret;exact ⟨rfl,g0,(Fr.refl _ _).alloc _⟩
theorem fL (l:List Int):(u32C l).size=l.length:=by simp [u32C]
theorem jX {l:List Int} {i:Nat} (h:i<l.length):(u32C l)[i]?=some (.int .u32 l[i]):=by simp [u32C,h]
theorem yR (l:List Int) (i:Nat) (x:Int):(u32C l).setIfInBounds i (.int .u32 x)=u32C (l.set i x):=by
 apply Array.ext';simp [u32C]
def initP:List Int:=[1779033703,3144134277,1013904242,2773480762,1359893119,2600822924,528734635,1541459225]
def hashC (st:List Int) (buf:Bs) (n:Nat):Array Value:=kindC++u32C st++(List.replicate 8 (Value.int .u64 0)).toArray++(buf.map (fun b=>Value.int .u8 (b.toNat:Int))).toArray ++ #[.int .i64 (n:Int)]
theorem Og (w:World):Calls Tryz.prog 105 #[.int .i64 0] w fun e w'=>∃ h,e=.returned (.tuple #[.pointer (some ⟨h,0,none⟩),.int .i64 0])/\w.heap.size<=h/\Blk w' h 228 (hashC initP (List.replicate 128 0) 0)/\Fr NoB w w':=by
 go_enter Tryz.func105,Tryz.ntmps105;go_wp2_with (go_at_call 151;((with_reducible refine (Cv _).mono ?_);rintro e w1 ⟨rfl,f1⟩));go_ret2;have g0:=Blk.new w1 228 (hashC initP (List.replicate 128 0) 0);exact ⟨w1.heap.size,rfl,f1.size,g0,f1.alloc _⟩
theorem Cy (w:World):Calls Tryz.prog 154 #[] w fun e w'=>(∃ v,e=.returned v)/\Fr NoB w w':=by
 go_enter Tryz.func154,Tryz.ntmps154;go_wp2_with fail;go_ret;exact ⟨⟨_,rfl⟩,(Fr.refl _ _).alloc _⟩
def ll (y:Int):UInt8:=(y % 256).toNat.toUInt8
def lp (x:Int) (k:Nat):Bs:=(List.range k).map (fun j=>ll (x / 2 ^ (24 - 8*j)))
theorem pK (y:Int):((ll y).toNat:Int)=y % 256:=by
 unfold ll;have h:(y % 256).toNat<256:=by omega
 simp [Nat.toUInt8,UInt8.toNat_ofNat',Nat.mod_eq_of_lt h];omega
theorem Cz (x:Int) (k:Nat):lp x (k+1)=lp x k++[ll (x / 2 ^ (24 - 8*k))]:=by
 unfold lp;rw [List.range_succ,List.map_append];rfl
def eW (st:List Int):Bs:=st.flatMap (fun x=>lp x 4)
theorem vw (st:List Int) (i:Nat) (h:i<st.length):eW (st.take (i+1))=eW (st.take i)++lp st[i] 4:=by
 unfold eW;rw [List.take_succ_eq_append_getElem h,List.flatMap_append];simp
theorem lO (st:List Int):(eW st).length=4*st.length:=by
 induction st with
 | nil=>rfl
 | cons x r ih=>unfold eW at *;rw [List.flatMap_cons,List.length_append,ih,List.length_cons];simp [lp];omega
theorem RS (st:List Int) (cj:st.length=8) (i:Nat) (hi:i<8) (u:World):(Instr.index 224 (.agg (u32C st)) (.int .i64 i)).run Tryz.prog u=.ok (.int .u32 (st.getD i 0)) u:=by
 match st,cj with
 | [a,b,c,d,e,f,g,h],_=>
  match i,hi with
  | 0,_=>show _=_;kernel_rfl
  | 1,_=>show _=_;kernel_rfl
  | 2,_=>show _=_;kernel_rfl
  | 3,_=>show _=_;kernel_rfl
  | 4,_=>show _=_;kernel_rfl
  | 5,_=>show _=_;kernel_rfl
  | 6,_=>show _=_;kernel_rfl
  | 7,_=>show _=_;kernel_rfl
theorem Gh (st:List Int) (w:World) (cj:st.length=8) :
  Calls Tryz.prog 157 #[.agg (u32C st),.agg kindC] w fun e w'=>e=.returned (.string ⟨(eW st).toArray⟩)/\Fr NoB w w':=by
 have g0:Blk ((w.alloc (.cells (u32C st) 224)).alloc (.cells kindC 222)) w.heap.size 224 (u32C st):=(Blk.new w _ _).alloc _;have g1:Blk ((w.alloc (.cells (u32C st) 224)).alloc (.cells kindC 222)) (w.heap.size+1) 222 kindC:=by
  have:=Blk.new (w.alloc (.cells (u32C st) 224)) 222 kindC;simpa using this
 have f0:Fr NoB w ((w.alloc (.cells (u32C st) 224)).alloc (.cells kindC 222)):=((Fr.refl _ _).alloc _).alloc _;have aaT:(u32C st).size=8:=by rw [fL,cj]
 go_enter Tryz.func157,Tryz.ntmps157;go_upto_block 0 with (refine wpList_load_row rfl 224 _ rfl w.heap.size rfl 224 _ _ _ g0 Tryz.underlying224 rfl (by rw [mh,aaT]) ?_);have b0:BR ((w.alloc (.cells (u32C st) 224)).alloc (.cells kindC 222)).heap.size ((w.alloc (.cells (u32C st) 224)).alloc (.cells kindC 222)) (.slice none 0 0) []:=⟨by simp,Or.inl ⟨rfl,rfl⟩⟩;generalize (w.alloc (.cells (u32C st) 224)).alloc (.cells kindC 222)=W at *;go_wp2_with fail;go_loopw [5,10] (fun v5 v10 wr=>∃ i:Nat,i<=8/\v10=.int .i64 i/\BR W.heap.size wr v5 (eW (st.take i))/\Fr NoB W wr) (fun _ v10 _=>8 - (intOf v10).toNat)
 case atStart=>exact ⟨0,by omega,rfl,b0,Fr.refl _ _⟩
 case round=>
  obtain ⟨i,hi,rfl,hown,hf⟩:=hrel;have gk:=hf.blk g1 (fun e=>e);have ck:wr.cell? ⟨w.heap.size+1,0,none⟩=some (.int .i64 32):=(gk.cell 0).trans rfl;by_cases hlt:i<8
  ·have k1:(i:Int)<8:=by omega
   have k0:(0:Int)<=i:=by omega
   have hix:=RS st cj i hlt;have HT:=hd' (vw st i (by omega));have hgd:st.getD i 0=st[i]:=by rw [List.getD_eq_getElem?_getD,List.getElem?_eq_getElem (by omega)];rfl
   rw [hgd] at hix;clear hgd;generalize st[i]=x at *;have iB:=lO (st.take i);rw [List.length_take] at iB;generalize eW (st.take i)=A at *;go_wp2_with fail;go_loopw [5,8] (fun v5 v8 wx=>∃ k:Nat,k<=4/\v8=.int .i64 (24 - 8*(k:Int))/\BR W.heap.size wx v5 (A++lp x k)/\Fr NoB W wx) (fun _ v8 _=>(intOf v8+8).toNat)
   case atStart=>exact ⟨0,by omega,rfl,by simpa [lp] using hown,hf⟩
   case round=>
    clear hown hf gk ck;obtain ⟨k,hk,rfl,hown,hf⟩:=hrel;have hsz:=hf.size;have Uj:=f0.size;by_cases Gi:k<4
    ·(have p0:(0:Int)<=24 - 8*(k:Int):=by omega);(have p1:(24 - 8*(k:Int)).toNat=24 - 8*k:=by omega);have HN:=hd' (Cz x k);have e2:=pK (x / 2 ^ (24 - 8*k));have e2':=e2.symm;generalize ll (x / 2 ^ (24 - 8*k))=b8 at *;clear e2;(have Bo:(lp x k).length=k:=by simp [lp]);have fa:Fr NoB wr (wr.alloc (.cells #[.int .u8 (b8.toNat:Int)] 5)):=(Fr.refl _ _).alloc _;have dq:=hown.fr fa;go_wp2_with (at_builtin;go_loud (refine dL rfl _ _ rfl W.heap.size u5 _ rfl dq wr.heap.size 1 1 [b8] rfl rfl (aF wr #[.int .u8 (b8.toNat:Int)] [b8] rfl) (by rw [List.length_append,Bo];simp;omega) (by simp;omega) ?_;intro v4 w4 aB hgr));go_roundw
     case rel=>exact ⟨k+1,by omega,by congr 1;omega,by rw [HN.out,<- List.append_assoc];exact aB,dq.grown (hf.trans fa) hgr (Nat.le_refl _)⟩
     case measure=>simp [intOf];omega
    ·(have V5:k=4:=by omega);rw [V5,<- HT.out] at hown;(have p0:¬ (0:Int)<=24 - 8*(k:Int):=by omega);clear V5 Gi hk;go_wp2_with fail;go_roundw
     case rel=>exact ⟨i+1,by omega,by simp,hown,hf⟩
     case measure=>simp [intOf];omega
  ·have V6:i=8:=by omega
   rw [V6,List.take_of_length_le (by omega)] at hown;have k1:¬ (i:Int)<8:=by omega
   have c6:wr.cell? ⟨w.heap.size+1,14,none⟩=some (.int .i64 32):=(gk.cell 14).trans rfl;have iE:=hown.conv;have xK:(eW st).length=32:=by rw [lO,cj]
   have hne:eW st≠[]:=fun e=>by rw [e] at xK;simp at xK
   obtain ⟨g,c,rfl,_,_,_⟩:=hown.sl hne;have Ux:32<=c:=by
    rcases hown.2 with ⟨h,h2⟩|⟨g',c',cur,h,_,_,h2,_⟩
    ·omega
    ·simp at h;omega
   have aaV:(32:Int)<=c:=by omega
   have hc0:¬ c=0:=by omega
   rw [xK] at iE;clear V6 hlt hi;go_wp2_with fail;go_ret;exact ⟨rfl,f0.trans hf⟩
end Go.Proofs.YtbifjamddbpcjaaGreatDoor
