/- JSON, the document's side: Form. (Printed by gen_fm.py.) -/
import Derived.Test.YtbifjamddbpcjaaGreatDoorSo
import Derived.Test.YtbifjamddbpcjaaGreatDoorQt
import Derived.Test.YtbifjamddbpcjaaGreatDoorDk
namespace Go.Proofs.YtbifjamddbpcjaaGreatDoor
set_option maxRecDepth 100000
set_option maxHeartbeats 25600000
open Go.RowKit
theorem dQ {ops:Array Oper} {rest:List Oper} {o:Oper} {a:Act} {Q:Exit->Act->World->Prop} {w:World} (hgd:o.guard=none) (sl x:Operand)
  (ho:o.op=.call { callee:=.builtin .append,args := #[sl,x],argTypes := #[81,81] }) (lo:Nat) (v:Value) (s:Bs) (hs:a.eval sl=v) (hown:BR lo w v s) (g m c:Nat) (t:Bs) (hx:a.eval x=.slice (some ⟨g,0,none⟩) m c) (hm:t.length=m) (rI:0<m)
  (hc:∀ (i:Nat) u,(bC t)[i]?=some u->w.cell? ⟨g,i,none⟩=some u)
  (hsz:s.length+t.length<=140737488355328) (cN:lo<=w.heap.size) (h:∀ v' w',BR lo w' v' (s++t)->w.grownBy w' v.ownBlock->(∀ y,v'.ownBlock=some y->v.ownBlock=some y\/y=w.heap.size)->wpList Tryz.prog ops Q rest (a.put o.dst v') w'):wpList Tryz.prog ops Q (o::rest) a w:=by
 obtain ⟨i0,jv,hz0,hz1,hz2⟩:=info_parts cO;subst hm;refine wpList_append_lies w hgd sl x 81 ho lo 5 i0 (.int .u8 0) 1 1 Tryz.underlying81 jv hz0 hz1 hz2 rfl (by decide) v s.length (bC s) hs hown ⟨g,0,none⟩ t.length c (bC t) hx (by simp) (fun j u hu=>by rw [bT,Nat.zero_add];exact hc j u hu) (np t) rI (by unfold maxLen;omega) (by omega) cN w.heap.size rfl (fun g' cap w' h1 h2 h3 _=>h _ w' ?_ h2 (fun y hy => ?_))
 ·unfold BR;simpa using h1
 ·have e:g'=y:=by simpa [Value.ownBlock] using hy
  subst e;exact h3
def eA (obj:Bool) (l:List Jv) (ks:List Bs):List Bs:=(List.range l.length).map (fun m=>(if obj then bJ (af ks m)++[58] else [])++br (l.getD m Jv.pq))
theorem oG (obj:Bool) (l:List Jv) (ks:List Bs):(eA obj l ks).length=l.length:=by simp [eA]
theorem Ep {obj:Bool} {l:List Jv} {ks:List Bs} {m:Nat} (h:m<l.length) (hm:m<(eA obj l ks).length):(eA obj l ks)[m]=(if obj then bJ (af ks m)++[58] else [])++br l[m]:=by
 simp [eA,List.getD,h]
theorem CM (l:List Jv) (ks:List Bs):dr false ks (cg l)=eA false l ks:=by
 unfold dr eA aO;rw [iT];apply List.map_congr_left;intro p hp;have hp:p<l.length:=List.mem_range.1 hp;unfold kh;rw [mF l p hp];simp [List.getD,hp]
theorem Gw {l:List Jv} {ks:List Bs}:dr true ks (cg l)=eA true (ey l ks) (aU l ks):=by
 unfold dr eA;rw [iT,dI];have e:aO true ks l.length=(List.range l.length).map (fun m=>dN l ks m):=by
  have:=vo (aO true ks l.length) 0;rw [bW] at this;exact this.symm
 rw [e,List.map_map];apply List.map_congr_left;intro m hm;have h1:=List.mem_range.1 hm;have hv:m<(ey l ks).length:=by rw [dI];exact h1
 show kh true ks (cg l) (dN l ks m)=_;unfold kh;rw [mF l _ (nF h1),oD h1];have:(ey l ks).getD m Jv.pq=l[dN l ks m]'(nF h1):=by
  rw [<- Ag h1 hv];simp [List.getD,hv]
 rw [this]
theorem Kw {k i:Int} {t:Bs} {l:List Jv} {ks:List Bs} (h:5<=k):br (.mk k i t l ks)=(if k==6 then 123 else 91)::(aC (dr (k==6) ks (cg l))++[if k==6 then 125 else 93]):=by
 rw [br,if_neg (by omega),if_neg (by omega),if_neg (by omega),if_neg (by omega),if_neg (by omega)]
theorem Er (j:Jv) (h:IH j=true):br j≠[]:=by
 obtain ⟨c,u,e,_⟩:=J6 j h;rw [e];simp
def FM (j:Jv):Prop:=∀ (n:Nat) (S:Nat->Prop) (v:Value) (w:World),(∀ g,S g->g<w.heap.size)->aG S w j v->aw n j=0->iY j<=8388608->Calls Tryz.prog 65 #[v] w fun e w'=>∃ u,e=.returned u/\BR w.heap.size w' u (br j)/\Fr NoB w w'
theorem CN (k i:Int) (t:Bs) (lv kv:Value) (w:World) (hk:0<=k/\k<5) (hi : -4611686018427387904<i/\i<4611686018427387904) (ht:t.length<=4398046511104) (L:Bs)
  (hL:L=if k=0 then im else if k=1 then eO else if k=2 then jd else if k=3 then Lib.itoa i else bJ t) :
  Calls Tryz.prog 65 #[jV k i t lv kv] w fun e w'=>∃ u,e=.returned u/\BR w.heap.size w' u L/\Fr NoB w w':=by
 have f0:Fr NoB w ((w.alloc (.cells #[.int .i64 k,.int .i64 i,.string ⟨t.toArray⟩,lv,kv] 31)).alloc (.cells #[] 5)):=((Fr.refl _ _).alloc _).alloc _;have g0:Blk ((w.alloc (.cells #[.int .i64 k,.int .i64 i,.string ⟨t.toArray⟩,lv,kv] 31)).alloc (.cells #[] 5)) w.heap.size 31 #[.int .i64 k,.int .i64 i,.string ⟨t.toArray⟩,lv,kv]:=(Blk.new w 31 _).alloc _;have r0:BR w.heap.size ((w.alloc (.cells #[.int .i64 k,.int .i64 i,.string ⟨t.toArray⟩,lv,kv] 31)).alloc (.cells #[] 5)) (.slice (some ⟨w.heap.size+1,0,none⟩) 0 0) []:=by
  have:=mz (w.alloc (.cells #[.int .i64 k,.int .i64 i,.string ⟨t.toArray⟩,lv,kv] 31)) w.heap.size (w.heap.size+1) 5 1 (by simp) (by omega);exact this
 have hs:w.heap.size<=((w.alloc (.cells #[.int .i64 k,.int .i64 i,.string ⟨t.toArray⟩,lv,kv] 31)).alloc (.cells #[] 5)).heap.size:=f0.size;generalize hW:(w.alloc (.cells #[.int .i64 k,.int .i64 i,.string ⟨t.toArray⟩,lv,kv] 31)).alloc (.cells #[] 5)=W at *;have HW:=hd' hW;clear hW;have c0:W.cell? ⟨w.heap.size,0,none⟩=some (.int .i64 k):=(g0.cell 0).trans rfl;have c1:W.cell? ⟨w.heap.size,1,none⟩=some (.int .i64 i):=(g0.cell 1).trans rfl;have c2:W.cell? ⟨w.heap.size,2,none⟩=some (.string ⟨t.toArray⟩):=(g0.cell 2).trans rfl;go_enter Tryz.func65,Tryz.ntmps65;by_cases k0:k=0
 ·subst k0;obtain rfl:L=im:=by rw [hL];rfl
  clear hL;go_wp2_with (first|(at_builtin;go_loud (refine kQ rfl _ _ rfl w.heap.size _ [] rfl r0 im rfl (by simp [im]) hs ?_;intro v4 w4 aB hgr))|(rw [HW.out]));go_ret;exact ⟨_,rfl,by simpa using aB,r0.grown f0 hgr (Nat.le_refl _)⟩
 by_cases k1:k=1
 ·subst k1;obtain rfl:L=eO:=by rw [hL];rfl
  clear hL;go_wp2_with (first|(at_builtin;go_loud (refine kQ rfl _ _ rfl w.heap.size _ [] rfl r0 eO rfl (by simp [eO]) hs ?_;intro v4 w4 aB hgr))|(rw [HW.out]));go_ret;exact ⟨_,rfl,by simpa using aB,r0.grown f0 hgr (Nat.le_refl _)⟩
 by_cases k2:k=2
 ·subst k2;obtain rfl:L=jd:=by rw [hL];rfl
  clear hL;go_wp2_with (first|(at_builtin;go_loud (refine kQ rfl _ _ rfl w.heap.size _ [] rfl r0 jd rfl (by simp [jd]) hs ?_;intro v4 w4 aB hgr))|(rw [HW.out]));go_ret;exact ⟨_,rfl,by simpa using aB,r0.grown f0 hgr (Nat.le_refl _)⟩
 by_cases k3:k=3
 ·subst k3;obtain rfl:L=Lib.itoa i:=by rw [hL];rfl
  clear hL;have Aa:=Lib.itoa_length_le i (by omega) (by omega);have HD:=hd' (fun u=>Am i u hi.1 hi.2);generalize Lib.itoa i=D at *;go_wp2_with (first|(go_at_call 108;((with_reducible refine (HD.out _).mono ?_);rintro e w2 ⟨rfl,f2⟩;have r2:=r0.fr f2;have qP:=f2.size))|(at_builtin;go_loud (refine kQ rfl _ _ rfl w.heap.size _ [] rfl r2 D rfl (by first|omega|(simp<;>omega)) (by omega) ?_;intro v4 w4 aB hgr))|(rw [HW.out]));go_ret;exact ⟨_,rfl,by simpa using aB,r2.grown (f0.trans f2) hgr (Nat.le_refl _)⟩
 ·obtain rfl:k=4:=by omega
  obtain rfl:L=bJ t:=by rw [hL];rfl
  clear hL;have HQ:=hd' (fun u=>qo t u ht);go_wp2_with (first|(go_at_call 109;((with_reducible refine (HQ.out _).mono ?_);rintro e w2 ⟨q,rfl,hq,f2⟩))|(rw [HW.out]));go_ret;exact ⟨_,rfl,J9 hq hs,f0.trans f2⟩
theorem fg {V N sz:Nat} {v v':Value} (h:∀ y,v.ownBlock=some y->y=N\/V<=y) (h2:∀ y,v'.ownBlock=some y->v.ownBlock=some y\/y=sz) (hs:V<=sz):∀ y,v'.ownBlock=some y->y=N\/V<=y:=fun y hy=>by
 rcases h2 y hy with h3|h3
 ·exact h y h3
 ·exact Or.inr (by omega)
theorem Fr.oH {V w w':World} {N:Nat} {v:Value} (hf:Fr (Only N) V w) (hg:w.grownBy w' v.ownBlock) (h:∀ y,v.ownBlock=some y->y=N\/V.heap.size<=y):Fr (Only N) V w':=
 hf.grown hg (fun j hj hlt=>by rcases h j hj with e|e;exact e;omega)
theorem Fr.plus {V w w':World} {N:Nat} (hf:Fr (Only N) V w) (f:Fr NoB w w'):Fr (Only N) V w':=hf.andThen f (fun _ _ e=>e.elim)
theorem Gx (s:Bs):bJ s≠[]:=by simp [bJ]
theorem Gy (i:Int) (t:Bs) (l:List Jv) (ks:List Bs) (S:Nat->Prop) (a1 a2 a3 a4:Value) (w:World) (hS:∀ g,S g->g<w.heap.size) (iB:l.length<=8388608) (jU:ks.length=l.length) (hkb:∀ s∈ks,s.length<=4398046511104)
  (Wj:∀ u,Fr NoB w u->Calls Tryz.prog 110 #[.agg #[.int .i64 6,a1,a2,a3,a4]] u fun e w'=>∃ x,e=.returned x/\aG (ux S u.heap.size w'.heap.size) w' (.mk 6 i t l ks) x/\Fr NoB u w')
  (tX:∀ x∈l,∀ (S:Nat->Prop) (v:Value) (w:World),(∀ g,S g->g<w.heap.size)->aG S w x v->Calls Tryz.prog 65 #[v] w fun e w'=>∃ u,e=.returned u/\BR w.heap.size w' u (br x)/\Fr NoB w w') (hne:∀ x∈l,br x≠[])
  (hlen:(aC (eA true l ks)).length<=1000000000) :
  Calls Tryz.prog 65 #[.agg #[.int .i64 6,a1,a2,a3,a4]] w fun e w'=>∃ u,e=.returned u/\BR w.heap.size w' u (123::(aC (eA true l ks)++[125]))/\Fr NoB w w':=by
 have f0:Fr NoB w ((w.alloc (.cells #[.int .i64 6,a1,a2,a3,a4] 31)).alloc (.cells #[] 5)):=((Fr.refl _ _).alloc _).alloc _;have g0:Blk ((w.alloc (.cells #[.int .i64 6,a1,a2,a3,a4] 31)).alloc (.cells #[] 5)) w.heap.size 31 #[.int .i64 6,a1,a2,a3,a4]:=(Blk.new w 31 _).alloc _;have r0:BR w.heap.size ((w.alloc (.cells #[.int .i64 6,a1,a2,a3,a4] 31)).alloc (.cells #[] 5)) (.slice (some ⟨w.heap.size+1,0,none⟩) 0 0) []:=by
  have:=mz (w.alloc (.cells #[.int .i64 6,a1,a2,a3,a4] 31)) w.heap.size (w.heap.size+1) 5 1 (by simp) (by omega);exact this
 have Cb:((w.alloc (.cells #[.int .i64 6,a1,a2,a3,a4] 31)).alloc (.cells #[] 5)).heap.size=w.heap.size+2:=by simp
 generalize hW:(w.alloc (.cells #[.int .i64 6,a1,a2,a3,a4] 31)).alloc (.cells #[] 5)=W at *;have HW:=hd' hW;have c0:W.cell? ⟨w.heap.size,0,none⟩=some (.int .i64 6):=(g0.cell 0).trans rfl;have Wk:=hd' (Wj W f0);have BB:=hd' tX;have Wl:=hd' hne;have HS:=hd' hS;have YQ:=hd' hkb;clear hW Wj tX hne hS hkb;go_enter Tryz.func65,Tryz.ntmps65;go_upto_region 17 with (first|(rw [HW.out])|(refine gI rfl _ rfl w.heap.size rfl g0 rfl ?_)|(go_at_call 110;((with_reducible refine Wk.out.mono ?_);rintro e w1 ⟨x,rfl,hx,f1⟩;obtain ⟨x0,x1,x2,x3,x4,rfl,o1⟩:=hx.form;have Sc:=f1.blk g0 (fun e=>e)))|(refine wpList_store_row rfl 31 _ _ rfl w.heap.size #[x0,x1,x2,x3,x4] rfl rfl 31 #[.int .i64 6,a1,a2,a3,a4] Sc ah rfl o1 ?_));simp only [aG] at hx;obtain ⟨lv,kv,he,hk,hi,ht,gH,hl,cs,hcs,dd⟩:=hx;simp only [jV,Value.agg.injEq,Array.mk.injEq,List.cons.injEq,and_true] at he;obtain ⟨rfl,rfl,rfl,rfl,rfl⟩:=he;obtain ⟨la,lc,rfl⟩:=dd.sl;obtain ⟨ka,kc,rfl⟩:=gH.1.sl;have hs1:=f1.size;have Wm:=Sc.setRow #[.int .i64 6,.int .i64 i,.string ⟨t.toArray⟩,.slice la l.length lc,.slice ka ks.length kc];have fR:Fr (Only w.heap.size) w1 (w1.setRow w.heap.size #[.int .i64 6,.int .i64 i,.string ⟨t.toArray⟩,.slice la l.length lc,.slice ka ks.length kc]):=Fr.eE _ _ _;have rV:BR w.heap.size (w1.setRow w.heap.size #[.int .i64 6,.int .i64 i,.string ⟨t.toArray⟩,.slice la l.length lc,.slice ka ks.length kc]) (.slice (some ⟨w.heap.size+1,0,none⟩) 0 0) []:=fR.row (r0.fr f1) (fun g hg e=>by
  have e1:w.heap.size+1=g:=by simpa [Value.ownBlock] using hg
  have e2:g=w.heap.size:=e;omega)
 have fV:Fr NoB w (w1.setRow w.heap.size #[.int .i64 6,.int .i64 i,.string ⟨t.toArray⟩,.slice la l.length lc,.slice ka ks.length kc]):=(f0.trans f1).setRow w.heap.size _ (Or.inl (Nat.le_refl _));have xA:(w1.setRow w.heap.size #[.int .i64 6,.int .i64 i,.string ⟨t.toArray⟩,.slice la l.length lc,.slice ka ks.length kc]).heap.size=w1.heap.size:=by simp [World.setRow]
 have hT:∀ g,ux S W.heap.size w1.heap.size g->g<w1.heap.size/\¬ g=w.heap.size/\¬ g=w.heap.size+1:=fun g hg=>by
  rcases hg with hg|hg
  ·have:=HS.out g hg;omega
  ·omega
 have Kx:=aq.fr (fun g hg=>fR.block g (hT g hg).1 (hT g hg).2.1) _ _ hcs;have Kz:=dd.fr (fun g hg=>fR.block g (hT g hg).1 (hT g hg).2.1);have KF:=gH.fr (fun g hg=>fR.block g (hT g hg).1 (hT g hg).2.1);generalize hV:w1.setRow w.heap.size #[.int .i64 6,.int .i64 i,.string ⟨t.toArray⟩,.slice la l.length lc,.slice ka ks.length kc]=V at *;generalize ux S W.heap.size w1.heap.size=M at *;rw [<- xA] at hT;have hwV:w.heap.size+2<=V.heap.size:=by omega
 have HB:Hid (∀ u,Fr (Only (w.heap.size+1)) V u->u.cell? ⟨w.heap.size,0,none⟩=some (.int .i64 6)/\u.cell? ⟨w.heap.size,3,none⟩=some (.slice la l.length lc)/\u.cell? ⟨w.heap.size,4,none⟩=some (.slice ka ks.length kc)):=hd' (fun u fu=>by
  have a:=fu.blk Wm (fun e=>by have e':w.heap.size=w.heap.size+1:=e;omega);exact ⟨(a.cell 0).trans rfl,(a.cell 3).trans rfl,(a.cell 4).trans rfl⟩)
 have UC:Hid (∀ u,Fr (Only (w.heap.size+1)) V u->∀ g,M g->u.heap[g]?=V.heap[g]?):=hd' (fun u fu g hg=>fu.block g (hT g hg).1 (fun e=>(hT g hg).2.2 e));have HML:Hid (∀ u,Fr (Only (w.heap.size+1)) V u->∀ g,M g->g<u.heap.size):=hd' (fun u fu g hg=>Nat.lt_of_lt_of_le (hT g hg).1 fu.size);have HL:=hd' (And.intro Kx Kz);have HK:=hd' KF;have iq:=fV;clear hcs dd gH Kx Kz KF hT Sc Wm g0 fR hV Wk HW o1 f0 f1 hs1 r0 c0 Cb xA fV HS;have Wn:∀ y,(Value.slice (some ⟨w.heap.size+1,0,none⟩) 0 0).ownBlock=some y->y=w.heap.size+1\/V.heap.size<=y:=fun y hy=>Or.inl (by simpa [Value.ownBlock] using hy.symm);have eG:Fr (Only (w.heap.size+1)) V V:=Fr.refl _ _;have Wo:Fr NoB V (V.alloc (.cells #[.int .u8 123] 5)):=(Fr.refl _ _).alloc _;have rbA:=rV.fr Wo;go_upto_region 18 with (at_builtin;go_loud (refine dQ rfl _ _ rfl w.heap.size (.slice (some ⟨w.heap.size+1,0,none⟩) 0 0) _ rfl rbA V.heap.size 1 1 [123] rfl rfl (by omega) (aF V #[.int .u8 123] [123] rfl) (by first|omega|(simp<;>omega)) (by first|omega|(simp<;>omega)) ?_;intro vA wA dq Sd Sg));have obA:=fg Wn Sg (by first|omega|(simp<;>omega));have Wp:=(eG.plus Wo).oH Sd Wn;have szA:=Wp.size;have MX:Hid (∀ m,m<l.length->aC ((eA true l ks).take (m+1))=aC ((eA true l ks).take m)++((if 0<m then [44] else [])++(bJ (af ks m)++[58]++br (l.getD m Jv.pq)))):=hd' (fun m hm=>by
  have h2:m<(eA true l ks).length:=by rw [oG];exact hm
  rw [kR _ m h2,Ep hm h2];simp [List.getD,hm])
 have OD:Hid (∀ m,(aC ((eA true l ks).take m)).length<=1000000000):=hd' (fun m=>Nat.le_trans (oI _ m) hlen);have CO:aC ((eA true l ks).take l.length)=aC (eA true l ks):=by rw [<- oG true l ks,List.take_length]
 have h0:aC ((eA true l ks).take 0)=[]:=by simp [aC]
 generalize hJ:(fun m=>aC ((eA true l ks).take m))=J at *;have eJ:∀ m,aC ((eA true l ks).take m)=J m:=fun m=>by rw [<- hJ]
 simp only [eJ] at MX OD CO h0;have HAL:=hd' CO;clear hlen CO hJ eJ;go_wp2_with fail;go_loopw [3,6] (fun v3 v6 wr=>∃ m:Nat,m<=l.length/\v6=.int .i64 m/\BR w.heap.size wr v3 (123::J m)/\Hid (∀ y,v3.ownBlock=some y->y=w.heap.size+1\/V.heap.size<=y)/\Fr (Only (w.heap.size+1)) V wr) (fun _ v6 _=>l.length - (intOf v6).toNat)
 case atStart=>exact ⟨0,Nat.zero_le _,rfl,by rw [h0];exact dq,hd' obA,Wp⟩
 case round=>
  obtain ⟨m,hm,rfl,hown,MN,hf⟩:=hrel;have abo:=hf.size;have HO:=MN.out;obtain ⟨d0,d3,d4⟩:=HB.out _ hf;have YU:=OD.out m;by_cases hlt:m<l.length
  ·have i1:(0:Int)<=m:=by omega
   have i2:(m:Int)<l.length:=by omega
   have xO:=MX.out m hlt;have pR:=OD.out (m+1);rw [xO] at pR;have ex:l.getD m Jv.pq=l[m]:=by simp [List.getD,hlt]
   rw [ex] at xO pR;obtain ⟨hcs,dd⟩:=HL.out;obtain ⟨v0,v1,v2,v3,v4,p0,p1,p2,p3,p4,hat⟩:=aq.get l cs m hlt hcs;obtain ⟨ga,oa,rfl,hMa,hcell⟩:∃ g o,la=some ⟨g,o,none⟩/\M g/\∀ (i:Nat) u,cs[i]?=some u->V.cell? ⟨g,o+i,none⟩=some u:=by
    rcases dd with ⟨h0,_⟩|⟨g,o,c',he,hg,hc⟩
    ·omega
    ·simp only [Value.slice.injEq,true_and] at he;exact ⟨g,o,he.1,hg,hc⟩
   have HE:Hid (∀ u,Fr (Only (w.heap.size+1)) V u->u.cell? ⟨ga,oa+m*5,none⟩=some v0/\u.cell? ⟨ga,oa+m*5+1,none⟩=some v1/\u.cell? ⟨ga,oa+m*5+2,none⟩=some v2/\u.cell? ⟨ga,oa+m*5+3,none⟩=some v3/\u.cell? ⟨ga,oa+m*5+4,none⟩=some v4):=hd' (fun u fu=>by
    have k:∀ (i:Nat) x,cs[i]?=some x->u.cell? ⟨ga,oa+i,none⟩=some x:=fun i x hx=>(World.cell?_of_block (w:=V) (UC.out u fu ga hMa)).trans (hcell i x hx);exact ⟨k _ _ p0,k _ _ p1,k _ _ p2,k _ _ p3,k _ _ p4⟩)
   have HC:Hid (∀ u,Fr (Only (w.heap.size+1)) V u->Calls Tryz.prog 65 #[.agg #[v0,v1,v2,v3,v4]] u fun e w'=>∃ x,e=.returned x/\BR u.heap.size w' x (br l[m])/\Fr NoB u w'):=hd' (fun u fu=>BB.out l[m] (List.getElem_mem hlt) M _ u (HML.out u fu) (aG.fr (UC.out u fu) _ _ hat));have hne:=Wl.out l[m] (List.getElem_mem hlt);generalize br l[m]=F at *;have mV:m<ks.length:=by omega
   have Ao:Hid (∀ u,Fr (Only (w.heap.size+1)) V u->∃ gk ok,ka=some ⟨gk,ok,none⟩/\u.cell? ⟨gk,ok+m,none⟩=some (sV (af ks m))):=hd' (fun u fu=>by
    rcases HK.out.1 with ⟨h0,_⟩|⟨g,o,c',he,hg,hc⟩
    ·omega
    ·simp only [Value.slice.injEq,true_and] at he;refine ⟨g,o,he.1,(World.cell?_of_block (w:=V) (UC.out u fu g hg)).trans (hc m _ ?_)⟩;rw [<- fJ mV];simp [mV])
   have DA:(af ks m).length<=4398046511104:=by
    have:=YQ.out ks[m] (List.getElem_mem mV);rwa [fJ mV] at this
   have HQ:=hd' (fun u=>qo (af ks m) u DA);have YV:=Gx (af ks m);obtain ⟨gk,ok,rfl,_⟩:=Ao.out _ hf;have HKZ:Hid (∀ u,Fr (Only (w.heap.size+1)) V u->u.cell? ⟨gk,ok+m,none⟩=some (sV (af ks m))):=hd' (fun u fu=>by
    obtain ⟨a,b,e,h⟩:=Ao.out u fu;simp only [Option.some.injEq,Addr.mk.injEq,and_true] at e;obtain ⟨rfl,rfl⟩:=e;exact h)
   have i3:(m:Int)<ks.length:=by omega
   generalize bJ (af ks m)=Q at *;generalize af ks m=key at *;clear hcell p0 p1 p2 p3 p4 hat hcs dd ex;by_cases hp:0<m
   ·(have R4:(0:Int)<m:=by omega);rw [if_pos hp] at xO pR;simp only [List.length_append,List.length_cons,List.length_nil] at pR;have ML:=hd' xO;clear xO;have Wq:Fr NoB wr (wr.alloc (.cells #[.int .u8 44] 5)):=(Fr.refl _ _).alloc _;have rbB:=hown.fr Wq;go_upto_region 23 with (at_builtin;go_loud (refine dQ rfl _ _ rfl w.heap.size u3 _ rfl rbB wr.heap.size 1 1 [44] rfl rfl (by omega) (aF wr #[.int .u8 44] [44] rfl) (by first|omega|(simp<;>omega)) (by first|omega|(simp<;>omega)) ?_;intro vB wB uz Sh Si));have Ws:=fg HO Si (by first|omega|(simp<;>omega));have MS:=(hf.plus Wq).oH Sh HO;have szB:=MS.size;clear d0 d3 d4;obtain ⟨d0,d3,d4⟩:=HB.out _ MS;have dk:=HKZ.out _ MS;go_upto_region 25 with (first|(go_at_call 109;((with_reducible refine (HQ.out _).mono ?_);rintro e wq ⟨q,rfl,hq,fq⟩;obtain ⟨gq,cq,rfl,_,_,Wt⟩:=hq.sl YV;have rq:=uz.fr fq;have szq:=fq.size))|(at_builtin;go_loud (refine dQ rfl _ _ rfl w.heap.size vB _ rfl rq gq Q.length cq Q rfl rfl (List.length_pos_iff.2 YV) Wt (by first|omega|(simp<;>omega)) (by omega) ?_;intro vC wC Sj Sk Sl)));have Wu:=fg Ws Sl (by omega);have Wv:=(MS.plus fq).oH Sk Ws;have szC:=Wv.size;clear Wt hq rq dk d0 d3 d4;have Ww:Fr NoB wC (wC.alloc (.cells #[.int .u8 58] 5)):=(Fr.refl _ _).alloc _;have rbD:=Sj.fr Ww;go_upto_region 26 with (at_builtin;go_loud (refine dQ rfl _ _ rfl w.heap.size vC _ rfl rbD wC.heap.size 1 1 [58] rfl rfl (by omega) (aF wC #[.int .u8 58] [58] rfl) (by first|omega|(simp<;>omega)) (by first|omega|(simp<;>omega)) ?_;intro vD wD Sm Sn Sp));have Wx:=fg Wu Sp (by first|omega|(simp<;>omega));have KG:=(Wv.plus Ww).oH Sn Wu;have szD:=KG.size;obtain ⟨d0,d3,d4⟩:=HB.out _ KG;obtain ⟨e0,e1,e2,e3,e4⟩:=HE.out _ KG;have Nh:=hd' (HC.out _ KG);go_wp2_with (first|(go_at_call 65;((with_reducible refine Nh.out.mono ?_);rintro e wf ⟨y,rfl,hy,ff⟩;obtain ⟨gf,cf,rfl,_,_,D1⟩:=hy.sl hne;have rf:=Sm.fr ff;have szf:=ff.size))|(at_builtin;go_loud (refine dQ rfl _ _ rfl w.heap.size vD _ rfl rf gf F.length cf F rfl rfl (List.length_pos_iff.2 hne) D1 (by first|omega|(simp<;>omega)) (by omega) ?_;intro vE wE CP CQ CS)));have Sq:=fg Wx CS (by omega);have Sr:=(KG.plus ff).oH CQ Wx;go_roundw
    case rel=>exact ⟨m+1,by omega,by simp,by rw [ML.out];simpa using CP,hd' Sq,Sr⟩
    case measure=>simp [intOf];omega
   ·(have R4:¬ (0:Int)<m:=by omega);rw [if_neg hp] at xO pR;simp only [List.length_append,List.length_cons,List.length_nil] at pR;have ML:=hd' xO;clear xO;go_upto_region 23 with fail;clear d0 d3 d4;obtain ⟨d0,d3,d4⟩:=HB.out _ hf;have dk:=HKZ.out _ hf;go_upto_region 25 with (first|(go_at_call 109;((with_reducible refine (HQ.out _).mono ?_);rintro e wq ⟨q,rfl,hq,fq⟩;obtain ⟨gq,cq,rfl,_,_,Wt⟩:=hq.sl YV;have rq:=hown.fr fq;have szq:=fq.size))|(at_builtin;go_loud (refine dQ rfl _ _ rfl w.heap.size u3 _ rfl rq gq Q.length cq Q rfl rfl (List.length_pos_iff.2 YV) Wt (by first|omega|(simp<;>omega)) (by omega) ?_;intro vC wC Sj Sk Sl)));have Wu:=fg HO Sl (by omega);have Wv:=(hf.plus fq).oH Sk HO;have szC:=Wv.size;clear Wt hq rq dk d0 d3 d4;have Ww:Fr NoB wC (wC.alloc (.cells #[.int .u8 58] 5)):=(Fr.refl _ _).alloc _;have rbD:=Sj.fr Ww;go_upto_region 26 with (at_builtin;go_loud (refine dQ rfl _ _ rfl w.heap.size vC _ rfl rbD wC.heap.size 1 1 [58] rfl rfl (by omega) (aF wC #[.int .u8 58] [58] rfl) (by first|omega|(simp<;>omega)) (by first|omega|(simp<;>omega)) ?_;intro vD wD Sm Sn Sp));have Wx:=fg Wu Sp (by first|omega|(simp<;>omega));have KG:=(Wv.plus Ww).oH Sn Wu;have szD:=KG.size;obtain ⟨d0,d3,d4⟩:=HB.out _ KG;obtain ⟨e0,e1,e2,e3,e4⟩:=HE.out _ KG;have Nh:=hd' (HC.out _ KG);go_wp2_with (first|(go_at_call 65;((with_reducible refine Nh.out.mono ?_);rintro e wf ⟨y,rfl,hy,ff⟩;obtain ⟨gf,cf,rfl,_,_,D1⟩:=hy.sl hne;have rf:=Sm.fr ff;have szf:=ff.size))|(at_builtin;go_loud (refine dQ rfl _ _ rfl w.heap.size vD _ rfl rf gf F.length cf F rfl rfl (List.length_pos_iff.2 hne) D1 (by first|omega|(simp<;>omega)) (by omega) ?_;intro vE wE CP CQ CS)));have Sq:=fg Wx CS (by omega);have Sr:=(KG.plus ff).oH CQ Wx;go_roundw
    case rel=>exact ⟨m+1,by omega,by simp,by rw [ML.out];simpa using CP,hd' Sq,Sr⟩
    case measure=>simp [intOf];omega
  ·obtain rfl:m=l.length:=by omega
   have Wy:Fr NoB wr (wr.alloc (.cells #[.int .u8 125] 5)):=(Fr.refl _ _).alloc _;have rbZ:=hown.fr Wy;go_wp2_with (at_builtin;go_loud (refine dQ rfl _ _ rfl w.heap.size u3 _ rfl rbZ wr.heap.size 1 1 [125] rfl rfl (by omega) (aF wr #[.int .u8 125] [125] rfl) (by first|omega|(simp<;>omega)) (by first|omega|(simp<;>omega)) ?_;intro vZ wZ Ss St abv));have frZ:=(hf.plus Wy).oH St HO;go_ret;exact ⟨_,rfl,by rw [<- HAL.out];simpa using Ss,iq.andThen frZ (fun j hj e=>by have e':j=w.heap.size+1:=e;omega)⟩
theorem CT (i:Int) (t:Bs) (l:List Jv) (ks:List Bs) (S:Nat->Prop) (a1 a2 a3 a4:Value) (w:World) (hS:∀ g,S g->g<w.heap.size) (iB:l.length<=8388608)
  (Wj:∀ u,Fr NoB w u->Calls Tryz.prog 110 #[.agg #[.int .i64 5,a1,a2,a3,a4]] u fun e w'=>∃ x,e=.returned x/\aG (ux S u.heap.size w'.heap.size) w' (.mk 5 i t l ks) x/\Fr NoB u w')
  (tX:∀ x∈l,∀ (S:Nat->Prop) (v:Value) (w:World),(∀ g,S g->g<w.heap.size)->aG S w x v->Calls Tryz.prog 65 #[v] w fun e w'=>∃ u,e=.returned u/\BR w.heap.size w' u (br x)/\Fr NoB w w') (hne:∀ x∈l,br x≠[])
  (hlen:(aC (eA false l ks)).length<=1000000000) :
  Calls Tryz.prog 65 #[.agg #[.int .i64 5,a1,a2,a3,a4]] w fun e w'=>∃ u,e=.returned u/\BR w.heap.size w' u (91::(aC (eA false l ks)++[93]))/\Fr NoB w w':=by
 have f0:Fr NoB w ((w.alloc (.cells #[.int .i64 5,a1,a2,a3,a4] 31)).alloc (.cells #[] 5)):=((Fr.refl _ _).alloc _).alloc _;have g0:Blk ((w.alloc (.cells #[.int .i64 5,a1,a2,a3,a4] 31)).alloc (.cells #[] 5)) w.heap.size 31 #[.int .i64 5,a1,a2,a3,a4]:=(Blk.new w 31 _).alloc _;have r0:BR w.heap.size ((w.alloc (.cells #[.int .i64 5,a1,a2,a3,a4] 31)).alloc (.cells #[] 5)) (.slice (some ⟨w.heap.size+1,0,none⟩) 0 0) []:=by
  have:=mz (w.alloc (.cells #[.int .i64 5,a1,a2,a3,a4] 31)) w.heap.size (w.heap.size+1) 5 1 (by simp) (by omega);exact this
 have Cb:((w.alloc (.cells #[.int .i64 5,a1,a2,a3,a4] 31)).alloc (.cells #[] 5)).heap.size=w.heap.size+2:=by simp
 generalize hW:(w.alloc (.cells #[.int .i64 5,a1,a2,a3,a4] 31)).alloc (.cells #[] 5)=W at *;have HW:=hd' hW;have c0:W.cell? ⟨w.heap.size,0,none⟩=some (.int .i64 5):=(g0.cell 0).trans rfl;have Wk:=hd' (Wj W f0);have BB:=hd' tX;have Wl:=hd' hne;have HS:=hd' hS;clear hW Wj tX hne hS;go_enter Tryz.func65,Tryz.ntmps65;go_upto_region 17 with (first|(rw [HW.out])|(refine gI rfl _ rfl w.heap.size rfl g0 rfl ?_)|(go_at_call 110;((with_reducible refine Wk.out.mono ?_);rintro e w1 ⟨x,rfl,hx,f1⟩;obtain ⟨x0,x1,x2,x3,x4,rfl,o1⟩:=hx.form;have Sc:=f1.blk g0 (fun e=>e)))|(refine wpList_store_row rfl 31 _ _ rfl w.heap.size #[x0,x1,x2,x3,x4] rfl rfl 31 #[.int .i64 5,a1,a2,a3,a4] Sc ah rfl o1 ?_));simp only [aG] at hx;obtain ⟨lv,kv,he,hk,hi,ht,gH,hl,cs,hcs,dd⟩:=hx;simp only [jV,Value.agg.injEq,Array.mk.injEq,List.cons.injEq,and_true] at he;obtain ⟨rfl,rfl,rfl,rfl,rfl⟩:=he;obtain ⟨la,lc,rfl⟩:=dd.sl;obtain ⟨ka,kc,rfl⟩:=gH.1.sl;have hs1:=f1.size;have Wm:=Sc.setRow #[.int .i64 5,.int .i64 i,.string ⟨t.toArray⟩,.slice la l.length lc,.slice ka ks.length kc];have fR:Fr (Only w.heap.size) w1 (w1.setRow w.heap.size #[.int .i64 5,.int .i64 i,.string ⟨t.toArray⟩,.slice la l.length lc,.slice ka ks.length kc]):=Fr.eE _ _ _;have rV:BR w.heap.size (w1.setRow w.heap.size #[.int .i64 5,.int .i64 i,.string ⟨t.toArray⟩,.slice la l.length lc,.slice ka ks.length kc]) (.slice (some ⟨w.heap.size+1,0,none⟩) 0 0) []:=fR.row (r0.fr f1) (fun g hg e=>by
  have e1:w.heap.size+1=g:=by simpa [Value.ownBlock] using hg
  have e2:g=w.heap.size:=e;omega)
 have fV:Fr NoB w (w1.setRow w.heap.size #[.int .i64 5,.int .i64 i,.string ⟨t.toArray⟩,.slice la l.length lc,.slice ka ks.length kc]):=(f0.trans f1).setRow w.heap.size _ (Or.inl (Nat.le_refl _));have xA:(w1.setRow w.heap.size #[.int .i64 5,.int .i64 i,.string ⟨t.toArray⟩,.slice la l.length lc,.slice ka ks.length kc]).heap.size=w1.heap.size:=by simp [World.setRow]
 have hT:∀ g,ux S W.heap.size w1.heap.size g->g<w1.heap.size/\¬ g=w.heap.size/\¬ g=w.heap.size+1:=fun g hg=>by
  rcases hg with hg|hg
  ·have:=HS.out g hg;omega
  ·omega
 have Kx:=aq.fr (fun g hg=>fR.block g (hT g hg).1 (hT g hg).2.1) _ _ hcs;have Kz:=dd.fr (fun g hg=>fR.block g (hT g hg).1 (hT g hg).2.1);have KF:=gH.fr (fun g hg=>fR.block g (hT g hg).1 (hT g hg).2.1);generalize hV:w1.setRow w.heap.size #[.int .i64 5,.int .i64 i,.string ⟨t.toArray⟩,.slice la l.length lc,.slice ka ks.length kc]=V at *;generalize ux S W.heap.size w1.heap.size=M at *;rw [<- xA] at hT;have hwV:w.heap.size+2<=V.heap.size:=by omega
 have HB:Hid (∀ u,Fr (Only (w.heap.size+1)) V u->u.cell? ⟨w.heap.size,0,none⟩=some (.int .i64 5)/\u.cell? ⟨w.heap.size,3,none⟩=some (.slice la l.length lc)/\u.cell? ⟨w.heap.size,4,none⟩=some (.slice ka ks.length kc)):=hd' (fun u fu=>by
  have a:=fu.blk Wm (fun e=>by have e':w.heap.size=w.heap.size+1:=e;omega);exact ⟨(a.cell 0).trans rfl,(a.cell 3).trans rfl,(a.cell 4).trans rfl⟩)
 have UC:Hid (∀ u,Fr (Only (w.heap.size+1)) V u->∀ g,M g->u.heap[g]?=V.heap[g]?):=hd' (fun u fu g hg=>fu.block g (hT g hg).1 (fun e=>(hT g hg).2.2 e));have HML:Hid (∀ u,Fr (Only (w.heap.size+1)) V u->∀ g,M g->g<u.heap.size):=hd' (fun u fu g hg=>Nat.lt_of_lt_of_le (hT g hg).1 fu.size);have HL:=hd' (And.intro Kx Kz);have HK:=hd' KF;have iq:=fV;clear hcs dd gH Kx Kz KF hT Sc Wm g0 fR hV Wk HW o1 f0 f1 hs1 r0 c0 Cb xA fV HS;have Wn:∀ y,(Value.slice (some ⟨w.heap.size+1,0,none⟩) 0 0).ownBlock=some y->y=w.heap.size+1\/V.heap.size<=y:=fun y hy=>Or.inl (by simpa [Value.ownBlock] using hy.symm);have eG:Fr (Only (w.heap.size+1)) V V:=Fr.refl _ _;have Wo:Fr NoB V (V.alloc (.cells #[.int .u8 91] 5)):=(Fr.refl _ _).alloc _;have rbA:=rV.fr Wo;go_upto_region 18 with (at_builtin;go_loud (refine dQ rfl _ _ rfl w.heap.size (.slice (some ⟨w.heap.size+1,0,none⟩) 0 0) _ rfl rbA V.heap.size 1 1 [91] rfl rfl (by omega) (aF V #[.int .u8 91] [91] rfl) (by first|omega|(simp<;>omega)) (by first|omega|(simp<;>omega)) ?_;intro vA wA dq Sd Sg));have obA:=fg Wn Sg (by first|omega|(simp<;>omega));have Wp:=(eG.plus Wo).oH Sd Wn;have szA:=Wp.size;have MX:Hid (∀ m,m<l.length->aC ((eA false l ks).take (m+1))=aC ((eA false l ks).take m)++((if 0<m then [44] else [])++([]++br (l.getD m Jv.pq)))):=hd' (fun m hm=>by
  have h2:m<(eA false l ks).length:=by rw [oG];exact hm
  rw [kR _ m h2,Ep hm h2];simp [List.getD,hm])
 have OD:Hid (∀ m,(aC ((eA false l ks).take m)).length<=1000000000):=hd' (fun m=>Nat.le_trans (oI _ m) hlen);have CO:aC ((eA false l ks).take l.length)=aC (eA false l ks):=by rw [<- oG false l ks,List.take_length]
 have h0:aC ((eA false l ks).take 0)=[]:=by simp [aC]
 generalize hJ:(fun m=>aC ((eA false l ks).take m))=J at *;have eJ:∀ m,aC ((eA false l ks).take m)=J m:=fun m=>by rw [<- hJ]
 simp only [eJ] at MX OD CO h0;have HAL:=hd' CO;clear hlen CO hJ eJ;go_wp2_with fail;go_loopw [3,6] (fun v3 v6 wr=>∃ m:Nat,m<=l.length/\v6=.int .i64 m/\BR w.heap.size wr v3 (91::J m)/\Hid (∀ y,v3.ownBlock=some y->y=w.heap.size+1\/V.heap.size<=y)/\Fr (Only (w.heap.size+1)) V wr) (fun _ v6 _=>l.length - (intOf v6).toNat)
 case atStart=>exact ⟨0,Nat.zero_le _,rfl,by rw [h0];exact dq,hd' obA,Wp⟩
 case round=>
  obtain ⟨m,hm,rfl,hown,MN,hf⟩:=hrel;have abo:=hf.size;have HO:=MN.out;obtain ⟨d0,d3,d4⟩:=HB.out _ hf;have YU:=OD.out m;by_cases hlt:m<l.length
  ·have i1:(0:Int)<=m:=by omega
   have i2:(m:Int)<l.length:=by omega
   have xO:=MX.out m hlt;have pR:=OD.out (m+1);rw [xO] at pR;have ex:l.getD m Jv.pq=l[m]:=by simp [List.getD,hlt]
   rw [ex] at xO pR;obtain ⟨hcs,dd⟩:=HL.out;obtain ⟨v0,v1,v2,v3,v4,p0,p1,p2,p3,p4,hat⟩:=aq.get l cs m hlt hcs;obtain ⟨ga,oa,rfl,hMa,hcell⟩:∃ g o,la=some ⟨g,o,none⟩/\M g/\∀ (i:Nat) u,cs[i]?=some u->V.cell? ⟨g,o+i,none⟩=some u:=by
    rcases dd with ⟨h0,_⟩|⟨g,o,c',he,hg,hc⟩
    ·omega
    ·simp only [Value.slice.injEq,true_and] at he;exact ⟨g,o,he.1,hg,hc⟩
   have HE:Hid (∀ u,Fr (Only (w.heap.size+1)) V u->u.cell? ⟨ga,oa+m*5,none⟩=some v0/\u.cell? ⟨ga,oa+m*5+1,none⟩=some v1/\u.cell? ⟨ga,oa+m*5+2,none⟩=some v2/\u.cell? ⟨ga,oa+m*5+3,none⟩=some v3/\u.cell? ⟨ga,oa+m*5+4,none⟩=some v4):=hd' (fun u fu=>by
    have k:∀ (i:Nat) x,cs[i]?=some x->u.cell? ⟨ga,oa+i,none⟩=some x:=fun i x hx=>(World.cell?_of_block (w:=V) (UC.out u fu ga hMa)).trans (hcell i x hx);exact ⟨k _ _ p0,k _ _ p1,k _ _ p2,k _ _ p3,k _ _ p4⟩)
   have HC:Hid (∀ u,Fr (Only (w.heap.size+1)) V u->Calls Tryz.prog 65 #[.agg #[v0,v1,v2,v3,v4]] u fun e w'=>∃ x,e=.returned x/\BR u.heap.size w' x (br l[m])/\Fr NoB u w'):=hd' (fun u fu=>BB.out l[m] (List.getElem_mem hlt) M _ u (HML.out u fu) (aG.fr (UC.out u fu) _ _ hat));have hne:=Wl.out l[m] (List.getElem_mem hlt);generalize br l[m]=F at *;clear hcell p0 p1 p2 p3 p4 hat hcs dd ex;by_cases hp:0<m
   ·(have R4:(0:Int)<m:=by omega);rw [if_pos hp] at xO pR;simp only [List.length_append,List.length_cons,List.length_nil] at pR;have ML:=hd' xO;clear xO;have Wq:Fr NoB wr (wr.alloc (.cells #[.int .u8 44] 5)):=(Fr.refl _ _).alloc _;have rbB:=hown.fr Wq;go_upto_region 23 with (at_builtin;go_loud (refine dQ rfl _ _ rfl w.heap.size u3 _ rfl rbB wr.heap.size 1 1 [44] rfl rfl (by omega) (aF wr #[.int .u8 44] [44] rfl) (by first|omega|(simp<;>omega)) (by first|omega|(simp<;>omega)) ?_;intro vB wB uz Sh Si));have Ws:=fg HO Si (by first|omega|(simp<;>omega));have MS:=(hf.plus Wq).oH Sh HO;have szB:=MS.size;clear d0 d3 d4;obtain ⟨d0,d3,d4⟩:=HB.out _ MS;go_upto_region 26 with fail;obtain ⟨e0,e1,e2,e3,e4⟩:=HE.out _ MS;have Nh:=hd' (HC.out _ MS);go_wp2_with (first|(go_at_call 65;((with_reducible refine Nh.out.mono ?_);rintro e wf ⟨y,rfl,hy,ff⟩;obtain ⟨gf,cf,rfl,_,_,D1⟩:=hy.sl hne;have rf:=uz.fr ff;have szf:=ff.size))|(at_builtin;go_loud (refine dQ rfl _ _ rfl w.heap.size vB _ rfl rf gf F.length cf F rfl rfl (List.length_pos_iff.2 hne) D1 (by first|omega|(simp<;>omega)) (by omega) ?_;intro vE wE CP CQ CS)));have Sq:=fg Ws CS (by omega);have Sr:=(MS.plus ff).oH CQ Ws;go_roundw
    case rel=>exact ⟨m+1,by omega,by simp,by rw [ML.out];simpa using CP,hd' Sq,Sr⟩
    case measure=>simp [intOf];omega
   ·(have R4:¬ (0:Int)<m:=by omega);rw [if_neg hp] at xO pR;simp only [List.length_append,List.length_nil] at pR;have ML:=hd' xO;clear xO;go_upto_region 23 with fail;clear d0 d3 d4;obtain ⟨d0,d3,d4⟩:=HB.out _ hf;go_upto_region 26 with fail;obtain ⟨e0,e1,e2,e3,e4⟩:=HE.out _ hf;have Nh:=hd' (HC.out _ hf);go_wp2_with (first|(go_at_call 65;((with_reducible refine Nh.out.mono ?_);rintro e wf ⟨y,rfl,hy,ff⟩;obtain ⟨gf,cf,rfl,_,_,D1⟩:=hy.sl hne;have rf:=hown.fr ff;have szf:=ff.size))|(at_builtin;go_loud (refine dQ rfl _ _ rfl w.heap.size u3 _ rfl rf gf F.length cf F rfl rfl (List.length_pos_iff.2 hne) D1 (by first|omega|(simp<;>omega)) (by omega) ?_;intro vE wE CP CQ CS)));have Sq:=fg HO CS (by omega);have Sr:=(hf.plus ff).oH CQ HO;go_roundw
    case rel=>exact ⟨m+1,by omega,by simp,by rw [ML.out];simpa using CP,hd' Sq,Sr⟩
    case measure=>simp [intOf];omega
  ·obtain rfl:m=l.length:=by omega
   have Wy:Fr NoB wr (wr.alloc (.cells #[.int .u8 93] 5)):=(Fr.refl _ _).alloc _;have rbZ:=hown.fr Wy;go_wp2_with (at_builtin;go_loud (refine dQ rfl _ _ rfl w.heap.size u3 _ rfl rbZ wr.heap.size 1 1 [93] rfl rfl (by omega) (aF wr #[.int .u8 93] [93] rfl) (by first|omega|(simp<;>omega)) (by first|omega|(simp<;>omega)) ?_;intro vZ wZ Ss St abv));have frZ:=(hf.plus Wy).oH St HO;go_ret;exact ⟨_,rfl,by rw [<- HAL.out];simpa using Ss,iq.andThen frZ (fun j hj e=>by have e':j=w.heap.size+1:=e;omega)⟩
theorem Es {k i:Int} {t:Bs} {n:Nat} {ks:List Bs} (h:aW k i t n ks=true) : -9007199254740991<=i/\i<=9007199254740991:=by
 unfold aW at h;simp only [Bool.and_eq_true] at h;have h1:=h.1.2;simp only [gL,Bool.or_eq_true,Bool.and_eq_true,decide_eq_true_eq,beq_iff_eq] at h1;omega
mutual
theorem KH:∀ j:Jv,FM j
 | .mk k i t l ks=>by
  intro n S v w hS hat yz hsz;have ih:=Et l;have gi:=sG _ n yz;have Qg:=mo n k i t l ks yz;have hki:=jZ Qg.1;have YW:=oJ _ n yz;have hii:=qp Qg.1;have Wz:=Qf gi;have Rj:=iy (n+1) l Qg.2;have aiT:uH l<=8388608:=by simp only [iY] at hsz;omega
  have aiU:Ei ks<=8388608:=by simp only [iY] at hsz;omega
  have aiV:t.length<=8388608:=by simp only [iY] at hsz;omega
  have iB:=qJ l;have CB:=hat;simp only [aG] at hat;obtain ⟨lv,kv,rfl,_,_,_,_⟩:=hat;by_cases hk5:k<5
  ·refine CN k i t lv kv w ⟨hki.1,hk5⟩ ⟨?_,?_⟩ (by omega) (br (.mk k i t l ks)) ?_
   ·have:=Es Qg.1;omega
   ·have:=Es Qg.1;omega
   ·rw [br];by_cases e0:k=0
    ·rw [if_pos e0,if_pos e0]
    by_cases e1:k=1
    ·rw [if_neg e0,if_pos e1,if_neg e0,if_pos e1]
    by_cases e2:k=2
    ·rw [if_neg e0,if_neg e1,if_pos e2,if_neg e0,if_neg e1,if_pos e2]
    by_cases e3:k=3
    ·rw [if_neg e0,if_neg e1,if_neg e2,if_pos e3,if_neg e0,if_neg e1,if_neg e2,if_pos e3]
    ·rw [if_neg e0,if_neg e1,if_neg e2,if_neg e3,if_pos (by omega),if_neg e0,if_neg e1,if_neg e2,if_neg e3]
  ·have e5:=Kw (i:=i) (t:=t) (l:=l) (ks:=ks) (show 5<=k by omega);have hso:=fun u (fu:Fr NoB w u)=>Oy _ S _ u (fun g hg=>Nat.lt_of_lt_of_le (hS g hg) fu.size) (aG.fr (fun g hg=>fu.block g (hS g hg) (fun e=>e)) _ _ CB) gi hsz;by_cases h6:k=6
   ·subst h6;obtain ⟨rfl,rfl,h1,h2⟩:=Kn gi;(have e6:br (.mk 6 0 [] l ks)=123::(aC (eA true (ey l ks) (aU l ks))++[125]):=by rw [e5,<- Gw];rfl);(have qq:(aC (eA true (ey l ks) (aU l ks))).length<=1000000000:=by rw [e6] at YW;simp at YW;omega);rw [e6];refine Gy 0 [] (ey l ks) (aU l ks) S _ _ _ _ w hS (by rw [dI];omega) (by rw [cG,dI]) (fun s hs => ?_) (fun u fu=>by have:=hso u fu;rwa [Km,if_pos rfl] at this) (fun x hx S' v' w' Wd Sv => ?_) (fun x hx=>Er x (Wz.2 x (vJ hx))) qq
    ·have:=qK ks s ((nz h1).mem_iff.1 hs);omega
    ·have hm:=vJ hx;exact ih x hm (n+1) S' v' w' Wd Sv (Rj x hm) (by have:=xJ hm;omega)
   ·obtain rfl:k=5:=by omega
    (have e6:br (.mk 5 i t l ks)=91::(aC (eA false l ks)++[93]):=by rw [e5,<- CM];rfl);(have qq:(aC (eA false l ks)).length<=1000000000:=by rw [e6] at YW;simp at YW;omega);rw [e6];exact CT i t l ks S _ _ _ _ w hS (by omega) (fun u fu=>by have:=hso u fu;rwa [Km,if_neg (by omega)] at this) (fun x hx S' v' w' Wd Sv=>ih x hx (n+1) S' v' w' Wd Sv (Rj x hx) (by have:=xJ hx;omega)) (fun x hx=>Er x (Wz.2 x hx)) qq
theorem Et:∀ (l:List Jv),∀ x∈l,FM x
 | [],x,hx=>absurd hx (by simp)
 | j::r,x,hx=>by
  cases hx with
  | head=>exact KH j
  | tail _ h=>exact Et r x h
end
theorem Gz (j:Jv) (a0 a1 a2 a3 a4:Value) (w:World) (hat:aG (All w) w j (.agg #[a0,a1,a2,a3,a4])) (hs:iY j<=8388608) :
  Calls Tryz.prog 32 #[.agg #[a0,a1,a2,a3,a4]] w fun e w'=>e=.returned (.tuple #[sV (cu j).1,.int .i64 ((cu j).2:Int)])/\Fr NoB w w':=by
 have f0:Fr NoB w (w.alloc (.cells #[a0,a1,a2,a3,a4] 31)):=(Fr.refl _ _).alloc _;have g0:=Blk.new w 31 #[a0,a1,a2,a3,a4];generalize hW:w.alloc (.cells #[a0,a1,a2,a3,a4] 31)=W at f0 g0;have HW:=hd' hW;have HC:=hd' (BD (All W) j (.agg #[a0,a1,a2,a3,a4]) W (fun _ h=>h) (hat.all f0) (IX j hs));have HF:Hid (aw 0 j=0->∀ u,Fr NoB W u->Calls Tryz.prog 65 #[.agg #[a0,a1,a2,a3,a4]] u fun e w'=>∃ x,e=.returned x/\BR u.heap.size w' x (br j)/\Fr NoB u w'):=hd' (fun hc u f=>KH j 0 (All u) _ u (fun _ h=>h) (hat.all (f0.trans f)) hc hs);have hT:cu j=if aw 0 j=0 then (if 65536<(br j).length then ([],92) else (br j,0)) else ([],aw 0 j):=rfl
 rw [hT];have iB:aw 0 j=0->(br j).length<=1000000000:=fun hc=>by have:=oJ j 0 hc;omega
 clear hW hat hs hT;generalize br j=L at *;generalize aw 0 j=q at *;go_enter Tryz.func32,Tryz.ntmps32;by_cases hq:q=0
 ·subst hq;have hF:=hd' (HF.out rfl);have hl:=iB rfl;rw [if_pos rfl];clear iB HF;by_cases h6:65536<L.length
  ·rw [if_pos h6];have k1:(65536:Int)<L.length:=by omega
   go_wp2_with (first|(rw [HW.out];refine gI rfl _ rfl w.heap.size rfl g0 rfl ?_)|(go_at_call 44;((with_reducible refine HC.out.mono ?_);rintro e w2 ⟨rfl,f2⟩;have g2:=f2.blk g0 (fun e=>e)))|(refine gI rfl _ rfl w.heap.size rfl g2 rfl ?_)|(go_at_call 65;((with_reducible refine (hF.out _ f2).mono ?_);rintro e w3 ⟨x,rfl,hx,f3⟩;have iE:=hx.conv)));go_ret2;exact ⟨rfl,f0.trans (f2.trans f3)⟩
  ·rw [if_neg h6];have k1:¬ (65536:Int)<L.length:=by omega
   go_wp2_with (first|(rw [HW.out];refine gI rfl _ rfl w.heap.size rfl g0 rfl ?_)|(go_at_call 44;((with_reducible refine HC.out.mono ?_);rintro e w2 ⟨rfl,f2⟩;have g2:=f2.blk g0 (fun e=>e)))|(refine gI rfl _ rfl w.heap.size rfl g2 rfl ?_)|(go_at_call 65;((with_reducible refine (hF.out _ f2).mono ?_);rintro e w3 ⟨x,rfl,hx,f3⟩;have iE:=hx.conv)));go_ret2;exact ⟨rfl,f0.trans (f2.trans f3)⟩
 ·have hqb:((q:Int) != 0)=true:=by simp;omega
  rw [if_neg hq];clear hq iB HF;go_wp2_with (first|(rw [HW.out];refine gI rfl _ rfl w.heap.size rfl g0 rfl ?_)|(go_at_call 44;((with_reducible refine HC.out.mono ?_);rintro e w2 ⟨rfl,f2⟩)));go_ret2;exact ⟨rfl,f0.trans f2⟩
end Go.Proofs.YtbifjamddbpcjaaGreatDoor
