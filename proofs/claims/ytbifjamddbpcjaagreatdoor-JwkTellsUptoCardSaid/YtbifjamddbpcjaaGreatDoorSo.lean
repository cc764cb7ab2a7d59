/- JSON, plain: what the document's Sorted chooses: the least key behind the last one. -/
import Derived.Test.YtbifjamddbpcjaaGreatDoorRt
namespace Go.Proofs.YtbifjamddbpcjaaGreatDoor
set_option maxRecDepth 100000
set_option maxHeartbeats 25600000
theorem Ad {a b:Bs} (h:a<=b) (hn:a≠b):a<b:=by
 rcases Classical.em (a<b) with h1|h1
 ·exact h1
 ·exact absurd (List.le_antisymm h (List.not_lt.1 h1)) hn
theorem Ae {l:List Jv} {ks:List Bs} (hl:ks.length=l.length) (hn:ks.Nodup):(aU l ks).Pairwise (· < ·):=by
 have h1:=xI l ks;have h2:(aU l ks).Pairwise (· ≠ ·):=(nz hl).nodup_iff.2 hn;exact (h1.and h2).imp (fun h=>Ad h.1 h.2)
def ey (l:List Jv) (ks:List Bs):List Jv:=(aO true ks l.length).map (fun p=>l.getD p Jv.pq)
theorem dI (l:List Jv) (ks:List Bs):(ey l ks).length=l.length:=by simp [ey,bW]
theorem vJ {l:List Jv} {ks:List Bs} {x:Jv} (h:x∈ey l ks):x∈l:=by
 obtain ⟨p,hp,rfl⟩:=List.mem_map.1 h;have:=mw hp;simp [List.getD,this]
def dN (l:List Jv) (ks:List Bs) (m:Nat):Nat:=(aO true ks l.length).getD m 0
theorem nF {l:List Jv} {ks:List Bs} {m:Nat} (h:m<l.length):dN l ks m<l.length:=by
 have ho:m<(aO true ks l.length).length:=by rw [bW];exact h
 unfold dN;rw [List.getD_eq_getElem?_getD,List.getElem?_eq_getElem ho];exact mw (List.getElem_mem ho)
theorem Af {l:List Jv} {ks:List Bs} {m:Nat} (h:m<l.length) (hm:m<(aU l ks).length):(aU l ks)[m]=af ks (dN l ks m):=by
 have ho:m<(aO true ks l.length).length:=by rw [bW];exact h
 unfold aU dN;rw [List.getD_eq_getElem?_getD,List.getElem?_eq_getElem ho];exact List.getElem_map ..
theorem Ag {l:List Jv} {ks:List Bs} {m:Nat} (h:m<l.length) (hm:m<(ey l ks).length):(ey l ks)[m]=l[dN l ks m]'(nF h):=by
 have ho:m<(aO true ks l.length).length:=by rw [bW];exact h
 have hp:=nF (ks:=ks) h;unfold dN at hp;unfold ey dN;simp only [List.getD_eq_getElem?_getD,List.getElem?_eq_getElem ho,Option.getD_some] at hp ⊢;simp [hp]
def MP (l:List Jv) (ks:List Bs) (m p:Nat):Prop:=m=0\/af (aU l ks) (m - 1)<af ks p
theorem oD {l:List Jv} {ks:List Bs} {m:Nat} (h:m<l.length):af (aU l ks) m=af ks (dN l ks m):=by
 have hm:m<(aU l ks).length:=by rw [cG];exact h
 rw [<- Af h hm];simp [af,List.getD,hm]
theorem nG {l:List Jv} {ks:List Bs} (hl:ks.length=l.length) (hn:ks.Nodup) {a b:Nat} (h:a<b) (hb:b<l.length):af (aU l ks) a<af (aU l ks) b:=by
 have h1:=List.pairwise_iff_getElem.1 (Ae hl hn) a b (by rw [cG];omega) (by rw [cG];omega) h;simpa [af,List.getD,cG,show a<l.length by omega,hb] using h1
theorem Ah {l:List Jv} {ks:List Bs} (hl:ks.length=l.length) (hn:ks.Nodup) {m:Nat} (h:m<l.length):MP l ks m (dN l ks m):=by
 by_cases h0:m=0
 ·exact Or.inl h0
 ·right;rw [<- oD h];exact nG hl hn (by omega) h
theorem jG {a b c:Bs} (h1:a<b) (h2:b<c):a<c:=List.lt_trans h1 h2
theorem sel {l:List Jv} {ks:List Bs} (hl:ks.length=l.length) (hn:ks.Nodup) {m q:Nat} (hm:m<l.length) (hq:q<l.length) (hb:MP l ks m q) (aa4:∀ p,p<l.length->MP l ks m p->¬ af ks p<af ks q):dN l ks m=q:=by
 have h1:=aa4 _ (nF hm) (Ah hl hn hm);have CD:q∈aO true ks l.length:=(iz true ks l.length).mem_iff.2 (List.mem_range.2 hq);obtain ⟨i,hi,hiq⟩:=List.getElem_of_mem CD;rw [bW] at hi;have R4:dN l ks i=q:=by
  have ho:i<(aO true ks l.length).length:=by rw [bW];exact hi
  unfold dN;rw [List.getD_eq_getElem?_getD,List.getElem?_eq_getElem ho];exact hiq
 have him:m<=i:=by
  rcases hb with h0|hb
  ·omega
  ·rcases Nat.lt_or_ge i m with hlt|Bn
   ·exfalso;rw [<- R4,<- oD hi] at hb;rcases Nat.lt_or_ge i (m - 1) with h2|h2
    ·exact List.lt_irrefl _ (jG hb (nG hl hn h2 (by omega)))
    ·(have:i=m - 1:=by omega);rw [this] at hb;exact List.lt_irrefl _ hb
   ·exact Bn
 rcases Nat.lt_or_ge m i with hlt|Bn
 ·exfalso;apply h1;rw [<- R4,<- oD hi,<- oD hm];exact nG hl hn hlt hi
 ·have:m=i:=by omega
  rw [this];exact R4
open Go.RowKit
def Ai (w:World) (a:Addr):Nat:=match w.cell? a with|some (.slice _ n _)=>n|_=>0
def qm (l:List Jv) (ks:List Bs) (m p:Nat) (z:Int):Prop:=(z<0/\∀ x,x<p->¬ MP l ks m x)\/∃ q:Nat,q<p/\z=q/\MP l ks m q/\∀ x,x<p->MP l ks m x->¬ af ks x<af ks q
theorem oC:∀ a b:Bs,Op.bytesLess a b=decide (a<b)
 | _,[]=>by simp [Op.bytesLess]
 | [],b::y=>by simp [Op.bytesLess]
 | a::x,b::y=>by
  rw [Op.bytesLess,oC x y];by_cases h:a<b
  ·simp [h,List.cons_lt_cons_iff]
  ·by_cases he:a=b
   ·subst he;simp
   ·simp [h,he,List.cons_lt_cons_iff]
theorem vL {l:List Jv} {ks:List Bs} {m p:Nat} {z:Int} (h:qm l ks m p z) (hb:MP l ks m p) (hz:z<0\/∃ q:Nat,z=q/\af ks p<af ks q):qm l ks m (p+1) p:=by
 refine Or.inr ⟨p,by omega,rfl,hb,fun x hx Gp hlt => ?_⟩;rcases Nat.lt_or_ge x p with II|II
 ·rcases h with ⟨_,h⟩|⟨q,_,hq,_,h⟩
  ·exact h x II Gp
  ·rcases hz with hz|⟨q',hq',hz⟩
   ·omega
   ·(have:q=q':=by omega);subst this;exact h x II Gp (jG hlt hz)
 ·have:x=p:=by omega
  subst this;exact List.lt_irrefl _ hlt
theorem Kk {l:List Jv} {ks:List Bs} {m p:Nat} {z:Int} (h:qm l ks m p z) (hb:¬ MP l ks m p):qm l ks m (p+1) z:=by
 rcases h with ⟨hz,h⟩|⟨q,hq,hz,Wf,h⟩
 ·refine Or.inl ⟨hz,fun x hx Gp => ?_⟩;rcases Nat.lt_or_ge x p with II|II
  ·exact h x II Gp
  ·have:x=p:=by omega
   subst this;exact hb Gp
 ·refine Or.inr ⟨q,by omega,hz,Wf,fun x hx Gp => ?_⟩;rcases Nat.lt_or_ge x p with II|II
  ·exact h x II Gp
  ·have:x=p:=by omega
   subst this;exact absurd Gp hb
theorem CF {l:List Jv} {ks:List Bs} {m p q:Nat} (h:qm l ks m p q) (hlt:¬ af ks p<af ks q):qm l ks m (p+1) q:=by
 rcases h with ⟨hz,h⟩|⟨q',hq,hz,Wf,h⟩
 ·omega
 ·have:q=q':=by omega
  subst this;refine Or.inr ⟨q,by omega,rfl,Wf,fun x hx Gp => ?_⟩;rcases Nat.lt_or_ge x p with II|II
  ·exact h x II Gp
  ·have:x=p:=by omega
   subst this;exact hlt
theorem Gq {l:List Jv} {ks:List Bs} (hl:ks.length=l.length) (hn:ks.Nodup) {m:Nat} {z:Int} (hm:m<l.length) (h:qm l ks m l.length z):z=(dN l ks m:Int):=by
 rcases h with ⟨_,h⟩|⟨q,hq,hz,Wf,h⟩
 ·exact absurd (Ah hl hn hm) (h _ (nF hm))
 ·rw [hz,sel hl hn hm hq Wf h]
def xM (l:List Jv) (ks:List Bs) (m p:Nat):Bool:=decide (m=0) || decide (af (aU l ks) (m - 1)<af ks p)
theorem sY {l:List Jv} {ks:List Bs} {m p:Nat}:xM l ks m p=true ↔ MP l ks m p:=by simp [xM,MP]
theorem CG (l:List Jv) (ks:List Bs) (S:Nat->Prop) (i:Int) (t:Bs) (la ka:Option Addr) (lc kc:Nat) (w:World) (hS:∀ g,S g->g<w.heap.size) (gH:kn S w ks (.slice ka ks.length kc))
  (cs:List Value) (hcs:aq S w l cs) (dd:aT S w (.slice la l.length lc) l.length cs) (iB:l.length<=8388608) (jU:ks.length=l.length) (P5:ks.Nodup) :
  Calls Tryz.prog 110 #[jV 6 i t (.slice la l.length lc) (.slice ka ks.length kc)] w fun e w'=>∃ u,e=.returned u/\aG (ux S w.heap.size w'.heap.size) w' (.mk 6 0 [] (ey l ks) (aU l ks)) u/\Fr NoB w w':=by
 obtain ⟨i1,IG,nw,um,yy⟩:=info_parts mv;obtain ⟨i0,jv,hz0,hz1,hz2⟩:=info_parts oB;rw [jU] at gH ⊢;have f:Fr NoB w (((w.alloc (.cells #[.int .i64 6,.int .i64 i,.string ⟨t.toArray⟩,.slice la l.length lc,.slice ka l.length kc] 31)).alloc (.cells zj 31)).alloc (.cells zj 31)):=(((Fr.refl _ _).alloc _).alloc _).alloc _;have g0:Blk (((w.alloc (.cells #[.int .i64 6,.int .i64 i,.string ⟨t.toArray⟩,.slice la l.length lc,.slice ka l.length kc] 31)).alloc (.cells zj 31)).alloc (.cells zj 31)) w.heap.size 31 #[.int .i64 6,.int .i64 i,.string ⟨t.toArray⟩,.slice la l.length lc,.slice ka l.length kc]:=((Blk.new w 31 _).alloc _).alloc _;have g1:Blk (((w.alloc (.cells #[.int .i64 6,.int .i64 i,.string ⟨t.toArray⟩,.slice la l.length lc,.slice ka l.length kc] 31)).alloc (.cells zj 31)).alloc (.cells zj 31)) (w.heap.size+1) 31 zj:=by
  have:=(Blk.new (w.alloc (.cells #[.int .i64 6,.int .i64 i,.string ⟨t.toArray⟩,.slice la l.length lc,.slice ka l.length kc] 31)) 31 zj).alloc (.cells zj 31);simpa using this
 have g2:Blk (((w.alloc (.cells #[.int .i64 6,.int .i64 i,.string ⟨t.toArray⟩,.slice la l.length lc,.slice ka l.length kc] 31)).alloc (.cells zj 31)).alloc (.cells zj 31)) (w.heap.size+2) 31 zj:=by
  have:=Blk.new ((w.alloc (.cells #[.int .i64 6,.int .i64 i,.string ⟨t.toArray⟩,.slice la l.length lc,.slice ka l.length kc] 31)).alloc (.cells zj 31)) 31 zj;simpa using this
 have Cb:(((w.alloc (.cells #[.int .i64 6,.int .i64 i,.string ⟨t.toArray⟩,.slice la l.length lc,.slice ka l.length kc] 31)).alloc (.cells zj 31)).alloc (.cells zj 31)).heap.size=w.heap.size+3:=by simp
 generalize hW:(((w.alloc (.cells #[.int .i64 6,.int .i64 i,.string ⟨t.toArray⟩,.slice la l.length lc,.slice ka l.length kc] 31)).alloc (.cells zj 31)).alloc (.cells zj 31))=W at f g0 g1 g2 Cb;have HW:=hd' hW;have W1:World:=(w.alloc (.cells #[.int .i64 6,.int .i64 i,.string ⟨t.toArray⟩,.slice la l.length lc,.slice ka l.length kc] 31)).alloc (.cells zj 31);have q0:((w.alloc (.cells #[.int .i64 6,.int .i64 i,.string ⟨t.toArray⟩,.slice la l.length lc,.slice ka l.length kc] 31)).alloc (.cells zj 31)).cell? ⟨w.heap.size,0,none⟩=some (.int .i64 6):=(((Blk.new w 31 #[.int .i64 6,.int .i64 i,.string ⟨t.toArray⟩,.slice la l.length lc,.slice ka l.length kc]).alloc (.cells zj 31)).cell 0).trans rfl;clear W1;have il:=bU 6 0 ⟨#[]⟩ none none 0 0 0 0;have fO:=Fr.eE W (w.heap.size+2) #[.int .i64 6,.int .i64 0,.string ⟨#[]⟩,.slice none 0 0,.slice none 0 0];have G2:=g2.setRow #[.int .i64 6,.int .i64 0,.string ⟨#[]⟩,.slice none 0 0,.slice none 0 0];have G0:=fO.blk g0 (fun e=>by have e':w.heap.size=w.heap.size+2:=e;omega);have G1:=fO.blk g1 (fun e=>by have e':w.heap.size+1=w.heap.size+2:=e;omega);have fF:Fr NoB w (W.setRow (w.heap.size+2) #[.int .i64 6,.int .i64 0,.string ⟨#[]⟩,.slice none 0 0,.slice none 0 0]):=f.setRow (w.heap.size+2) _ (Or.inl (by omega));have xA:(W.setRow (w.heap.size+2) #[.int .i64 6,.int .i64 0,.string ⟨#[]⟩,.slice none 0 0,.slice none 0 0]).heap.size=w.heap.size+3:=by rw [<- Cb];simp [World.setRow]
 generalize hV:W.setRow (w.heap.size+2) #[.int .i64 6,.int .i64 0,.string ⟨#[]⟩,.slice none 0 0,.slice none 0 0]=V at fO G2 G0 G1 fF xA;have HV:=hd' hV;have HB:Hid (∀ u,Fr (Only (w.heap.size+2)) V u->Blk u w.heap.size 31 #[.int .i64 6,.int .i64 i,.string ⟨t.toArray⟩,.slice la l.length lc,.slice ka l.length kc]/\Blk u (w.heap.size+1) 31 zj):=hd' (fun u fu=>⟨fu.blk G0 (fun e=>by have e':w.heap.size=w.heap.size+2:=e;omega),fu.blk G1 (fun e=>by have e':w.heap.size+1=w.heap.size+2:=e;omega)⟩);have HL:=hd' (And.intro hcs dd);have YQ:=hd' gH.2;have MO:Hid (aT S w (.slice ka l.length kc) l.length (ks.map sV)):=hd' (by have:=gH.1;rwa [jU] at this);have HS:=hd' hS;have Ow:=hd' (And.intro jU P5);have st:cw S (w.heap.size+3) V ((ey l ks).take 0) ((aU l ks).take 0) (.slice none 0 0) (.slice none 0 0):=⟨[],fun _=>False,World.ownsRow_nil _ _ _ _,World.ownsRow_nil _ _ _ _,by simp [aq],fun _ h=>h.elim,fun g hg=>by simp [Value.ownBlock] at hg⟩;have JH:Hid (∀ u,Fr (Only (w.heap.size+2)) V u->Fr NoB w u):=hd' (fun u fu=>fF.andThen fu (fun j hj e=>by have e':j=w.heap.size+2:=e;omega));clear hW hV hcs dd gH hS jU P5 g0 g1 fO G0 G1;go_enter Tryz.func110,Tryz.ntmps110;go_wp2_with (first|(refine wpList_store_row rfl 31 _ _ rfl (w.heap.size+2) #[.int .i64 6,.int .i64 0,.string ⟨#[]⟩,.slice none 0 0,.slice none 0 0] rfl rfl 31 zj g2 ah rfl il ?_;rw [HV.out])|(rw [HW.out]));simp only [Act.put,Nat.add_assoc,Nat.reduceAdd];go_loopw [4] (fun _ wr=>∃ (m:Nat) (lv kv:Value),m<=l.length/\Blk wr (w.heap.size+2) 31 #[.int .i64 6,.int .i64 0,.string ⟨#[]⟩,lv,kv]/\cw S (w.heap.size+3) wr ((ey l ks).take m) ((aU l ks).take m) lv kv/\Fr (Only (w.heap.size+2)) V wr) (fun _ wr=>l.length - Ai wr ⟨w.heap.size+2,4,none⟩)
 case atStart=>exact ⟨0,_,_,Nat.zero_le _,G2,st,Fr.refl _ _⟩
 case round=>
  obtain ⟨m,lv,kv,hm,B2,cj,hf⟩:=hrel;obtain ⟨B0,B1⟩:=HB.out _ hf;have d3:wr.cell? ⟨w.heap.size,3,none⟩=some (.slice la l.length lc):=(B0.cell 3).trans rfl;have d4:wr.cell? ⟨w.heap.size,4,none⟩=some (.slice ka l.length kc):=(B0.cell 4).trans rfl;have Gi:((aU l ks).take m).length=m:=by rw [List.length_take,cG];omega
  have Fh:((ey l ks).take m).length=m:=by rw [List.length_take,dI];omega
  obtain ⟨ak,ck,qE⟩:=cj.RH;rw [Gi] at qE;obtain ⟨al,cl,hlv⟩:=cj.Uu;rw [Fh] at hlv;subst qE hlv;have o4:wr.cell? ⟨w.heap.size+2,4,none⟩=some (.slice ak m ck):=(B2.cell 4).trans rfl;have o3:wr.cell? ⟨w.heap.size+2,3,none⟩=some (.slice al m cl):=(B2.cell 3).trans rfl;by_cases hlt:m<l.length
  ·have hL0:Hid (Ai wr ⟨w.heap.size+2,4,none⟩=m):=hd' (by unfold Ai;rw [o4]);have k2:(m:Int)<l.length:=by omega
   have dx:0<l.length:=by omega
   have fw:=JH.out wr hf;go_wp2_with fail;go_loopw [4,5] (fun v4 v5 wr2=>∃ (p:Nat) (z:Int),p<=l.length/\v5=.int .i64 p/\v4=.int .i64 z/\Fr NoB wr wr2/\Hid (qm l ks m p z)) (fun _ v5 _=>l.length - (intOf v5).toNat)
   case atStart=>exact ⟨0,-1,Nat.zero_le _,rfl,rfl,Fr.refl _ _,hd' (Or.inl ⟨by omega,fun x hx=>by omega⟩)⟩
   case round=>
    obtain ⟨p,z,hp,rfl,rfl,h2,CH⟩:=hrel;have D4:=(h2.blk B0 (fun e=>e)).five.2.2.2.2;have O4:=(h2.blk B2 (fun e=>e)).five.2.2.2.2;obtain ⟨gk,ok,rfl,wS⟩:=MO.out.P8 HS.out (fw.trans h2) dx;by_cases hpl:p<l.length
    ·(have k3:(0:Int)<=p:=by omega);(have k4:(p:Int)<l.length:=by omega);(have hpk:p<ks.length:=by rw [Ow.out.1];exact hpl);have ep:=wS p (sV ks[p]) (by simp [hpk]);(have ekp:ks[p]=af ks p:=by simp [af,List.getD,hpk]);rw [ekp] at ep;have R6:Hid (∀ u,Fr NoB wr u->u.cell? ⟨w.heap.size,4,none⟩=some (.slice (some ⟨gk,ok,none⟩) l.length kc)/\∀ x,x<l.length->u.cell? ⟨gk,ok+x,none⟩=some (sV (af ks x))):=hd' (fun u fu=>by
      refine ⟨((h2.trans fu).blk B0 (fun e=>e)).five.2.2.2.2,fun x hx => ?_⟩;(have hxk:x<ks.length:=by rw [Ow.out.1];exact hx);obtain ⟨gk',ok',he,aa5⟩:=MO.out.P8 HS.out ((fw.trans h2).trans fu) dx;simp only [Option.some.injEq,Addr.mk.injEq,and_true] at he;obtain ⟨rfl,rfl⟩:=he;have h:=aa5 x (sV ks[x]) (by simp [hxk]);rwa [show ks[x]=af ks x by simp [af,List.getD,hxk]] at h)
     clear ekp wS;go_upto_region 9 with fail;go_cut [6] (fun v6 wx=>v6=.bool (xM l ks m p)/\Fr NoB wr wx)
     case first=>
      by_cases rI:m=0
      ·have R7:Hid (xM l ks m p=true):=hd' (sY.2 (Or.inl rI));(have k12:((m:Int)==0)=true:=by simp [rI]);clear CH R6 rI;generalize af ks p=kp at *;go_wp2_with fail;go_quiet (fail);go_wp2_with fail;go_meet;exact ⟨by rw [R7.out],(Fr.refl _ _).drewN _⟩
      ·obtain ⟨m',hm'⟩:∃ m',m=m'+1:=⟨m - 1,by omega⟩;have own:=cj.keys;obtain ⟨Uw,rfl⟩:∃ g,ak=some ⟨g,0,none⟩:=by
        rcases own.2 with ⟨e1,e2⟩|⟨g,c1,u1,e1,_⟩
        ·rw [Gi] at e2;omega
        ·simp only [Value.slice.injEq] at e1;exact ⟨g,e1.1⟩
       (have aa6:m'<((aU l ks).take m).length:=by omega);have DA:((aU l ks).take m)[m']=af (aU l ks) m':=by
        (have:m'<(aU l ks).length:=by rw [cG];omega);simp [af,List.getD,this]
       have em:wr.cell? ⟨Uw,m',none⟩=some (sV (af (aU l ks) m')):=by
        have h:=@World.ownsRow.cells _ _ _ _ _ _ _ own Uw rfl m' (sV (af (aU l ks) m')) (by rw [List.getElem?_map,List.getElem?_eq_getElem aa6,DA];rfl);rw [bT,Nat.zero_add] at h;exact (h2.cell (p:=⟨Uw,m',none⟩) (own.lt Uw rfl).2 (fun e=>e)).trans h
       have R7:Hid (xM l ks m p=decide (af (aU l ks) m'<af ks p)):=hd' (by unfold xM;rw [hm'];simp);clear DA own;(have k5:(0:Int)<=m':=by omega);have k6:IntKind.i64.wrap (m':Int)=m':=IntWalk.i64_in _ (by omega);(have k6b:(m:Int) - 1=m':=by omega);(have k7:((m:Int)==0)=false:=by simp;omega);(have k8:(m':Int)<m:=by omega);clear rI hm' CH R6;by_cases hb':af (aU l ks) m'<af ks p
       ·(have ju:Op.bytesLess (af ks p) (af (aU l ks) m')=false:=by rw [oC];simp;exact fun e=>List.lt_irrefl _ (jG hb' e));(have MG:(af ks p==af (aU l ks) m')=false:=by simp;intro e;rw [e] at hb';exact List.lt_irrefl _ hb');have Ox:Hid (xM l ks m p=true):=hd' (by rw [R7.out];simpa using hb');clear hb' R7;generalize af (aU l ks) m'=km at *;generalize af ks p=kp at *;go_wp2_with fail;go_quiet (fail);go_wp2_with fail;go_meet;exact ⟨by rw [Ox.out],(Fr.refl _ _).drewN _⟩
       ·have Ox:Hid (xM l ks m p=false):=hd' (by rw [R7.out];simpa using hb');by_cases he:af ks p=af (aU l ks) m'
        ·(have ju:Op.bytesLess (af ks p) (af (aU l ks) m')=false:=by rw [oC,he];simp);(have MG:(af ks p==af (aU l ks) m')=true:=by simpa using he);clear he hb' R7;generalize af (aU l ks) m'=km at *;generalize af ks p=kp at *;go_wp2_with fail;go_quiet (fail);go_wp2_with fail;go_meet;exact ⟨by rw [Ox.out],(Fr.refl _ _).drewN _⟩
        ·have ju:Op.bytesLess (af ks p) (af (aU l ks) m')=true:=by
          rw [oC];simp;exact Ad (List.not_lt.1 hb') he
         clear he hb' R7;generalize af (aU l ks) m'=km at *;generalize af ks p=kp at *;go_wp2_with fail;go_quiet (fail);go_wp2_with fail;go_meet;exact ⟨by rw [Ox.out],(Fr.refl _ _).drewN _⟩
     case rest=>
      obtain ⟨rfl,f6⟩:=hcut;obtain ⟨D4',Ou⟩:=R6.out _ f6;have ep':=Ou p hpl;clear ep D4 O4;have fz:=h2.trans f6;cases zF:xM l ks m p with
      | false=>
       have HR:=hd' (Kk CH.out (fun e=>by rw [sY.2 e] at zF;cases zF));clear CH R6 Ou zF;generalize af ks p=kp at *;go_wp2_with fail;go_quiet (fail);go_wp2_with fail;go_roundw
       case rel=>exact ⟨p+1,z,by omega,by simp,rfl,fz.drewN _,HR⟩
       case measure=>simp [intOf];omega
      | true=>
       have hb:=sY.1 zF;clear zF;rcases CH.out with ⟨hzn,_⟩|⟨q,hq,rfl,_,_⟩
       ·have aiv:z<0:=hzn;have HR:=hd' (vL CH.out hb (Or.inl hzn));clear CH R6 Ou hb;generalize af ks p=kp at *;go_wp2_with fail;go_quiet (fail);go_wp2_with fail;go_roundw
        case rel=>exact ⟨p+1,p,by omega,by simp,rfl,fz.drewN _,HR⟩
        case measure=>simp [intOf];omega
       ·(have k9:(0:Int)<=q:=by omega);(have k10:(q:Int)<l.length:=by omega);(have k11:¬ (q:Int)<0:=by omega);have eq':=Ou q (by omega);by_cases UB:af ks p<af ks q
        ·have HR:=hd' (vL CH.out hb (Or.inr ⟨q,rfl,UB⟩));(have aa8:Op.bytesLess (af ks p) (af ks q)=true:=by rw [oC];simpa using UB);clear CH UB R6 Ou hb;generalize af ks p=kp at *;generalize af ks q=kq at *;go_wp2_with fail;go_quiet (fail);go_wp2_with fail;go_roundw
         case rel=>exact ⟨p+1,p,by omega,by simp,rfl,fz.drewN _,HR⟩
         case measure=>simp [intOf];omega
        ·have HR:=hd' (CF CH.out UB);(have aa8:Op.bytesLess (af ks p) (af ks q)=false:=by rw [oC];simpa using UB);clear CH UB R6 Ou hb;generalize af ks p=kp at *;generalize af ks q=kq at *;go_wp2_with fail;go_quiet (fail);go_wp2_with fail;go_roundw
         case rel=>exact ⟨p+1,q,by omega,by simp,rfl,fz.drewN _,HR⟩
         case measure=>simp [intOf];omega
    ·obtain rfl:p=l.length:=by omega
     obtain rfl:z=((dN l ks m:Nat):Int):=Gq Ow.out.1 Ow.out.2 hlt CH.out;have tZ:=nF (ks:=ks) hlt;(have hqk:dN l ks m<ks.length:=by rw [Ow.out.1];exact tZ);have MX:Hid ((aU l ks).take (m+1)=(aU l ks).take m++[af ks (dN l ks m)]):=hd' (by
      (have mV:m<(aU l ks).length:=by rw [cG];exact hlt);rw [(List.take_append_getElem mV).symm,Af hlt mV])
     have Kl:Hid ((ey l ks).take (m+1)=(ey l ks).take m++[l[dN l ks m]]):=hd' (by
      (have mV:m<(ey l ks).length:=by rw [dI];exact hlt);rw [(List.take_append_getElem mV).symm,Ag hlt mV])
     have eq':=wS (dN l ks m) (sV ks[dN l ks m]) (by simp [hqk]);rw [show ks[dN l ks m]=af ks (dN l ks m) by simp [af,List.getD,hqk]] at eq';obtain ⟨hcs,dd⟩:=HL.out;obtain ⟨v0,v1,v2,v3,v4,p0,p1,p2,p3,p4,oz⟩:=aq.get l cs (dN l ks m) tZ hcs;obtain ⟨gl,ol,rfl,_⟩:=dd.P8 HS.out (fw.trans h2) dx;have HE:Hid (∀ u,Fr NoB w u->u.cell? ⟨gl,ol+dN l ks m*5,none⟩=some v0/\u.cell? ⟨gl,ol+dN l ks m*5+1,none⟩=some v1/\u.cell? ⟨gl,ol+dN l ks m*5+2,none⟩=some v2/\u.cell? ⟨gl,ol+dN l ks m*5+3,none⟩=some v3/\u.cell? ⟨gl,ol+dN l ks m*5+4,none⟩=some v4):=hd' (fun u fu=>by
      obtain ⟨ga',oa',he,hc'⟩:=dd.P8 HS.out fu dx;simp only [Option.some.injEq,Addr.mk.injEq,and_true] at he;obtain ⟨rfl,rfl⟩:=he;exact ⟨hc' _ _ p0,hc' _ _ p1,hc' _ _ p2,hc' _ _ p3,hc' _ _ p4⟩)
     have UA:Hid (aG S w l[dN l ks m] (.agg #[v0,v1,v2,v3,v4])):=hd' oz;have o1:=RJ (dp oz.one);clear CH wS hcs dd p0 p1 p2 p3 p4 oz;(have k9:(0:Int)<=((dN l ks m:Nat):Int):=by omega);(have k10:((dN l ks m:Nat):Int)<l.length:=by omega);(have k11:¬ ((dN l ks m:Nat):Int)<0:=by omega);generalize l[dN l ks m]=x at *;generalize af ks (dN l ks m)=key at *;generalize dN l ks m=q at *;generalize (aU l ks).take m=Ks at *;generalize (ey l ks).take m=Vs at *;have st1:=(cj.fr h2).fr ((Fr.refl NoB wr).drew);have fa:Fr NoB wr.drew (wr.drew.alloc (.cells #[.string ⟨key.toArray⟩] 9)):=(Fr.refl NoB wr.drew).alloc _;have st2:=st1.fr fa;have sS:=st2.keys;rw [Gi] at sS;have hkb:=st2.RI.2;have Ov:Blk (wr.drew.alloc (.cells #[.string ⟨key.toArray⟩] 9)) (w.heap.size+2) 31 #[.int .i64 6,.int .i64 0,.string ⟨#[]⟩,.slice al m cl,.slice ak m ck]:=((h2.blk B2 (fun e=>e)).drew).alloc _;have fA:Fr NoB _ (wr.drew.alloc (.cells #[.string ⟨key.toArray⟩] 9)):=h2.drew.trans fa;(have hsw:w.heap.size+3<=wr.heap.size:=by rw [<- xA];exact (hf.andThen h2 (fun _ _ e=>e.elim)).size);have cA:(wr.alloc (.cells #[sV key] 9)).cell? ⟨w.heap.size+2,4,none⟩=some (.slice ak m ck):=(Ov.cell 4).trans rfl;go_upto_region 14 with fail;go_cut [] (fun wy=>∃ Cc,Blk wy (w.heap.size+2) 31 #[.int .i64 6,.int .i64 0,.string ⟨#[]⟩,.slice al m cl,Cc]/\cw S (w.heap.size+3) wy Vs (Ks++[key]) (.slice al m cl) Cc/\Fr (Only (w.heap.size+2)) V wy)
     case first=>
      go_region_law (first|(refine step_append_lies _ (by rfl) _ _ _ (by rfl) (w.heap.size+3) 9 i0 (.string ⟨#[]⟩) 1 16 Tryz.underlying29 jv hz0 hz1 hz2 (by rfl) (by decide) (.slice ak m ck) m (Ks.map sV) (by rfl) sS ⟨wr.heap.size,0,none⟩ 1 1 [sV key] (by rfl) (by rfl) (World.news_of_block (cs := #[.string ⟨key.toArray⟩]) (t:=9) (fr:=(0,0)) (heap_alloc_new wr.drew _)) (by intro u hu;rw [List.mem_singleton] at hu;subst hu;rfl) (by omega) (by unfold maxLen;omega) (by omega) (by simp;omega) (wr.heap.size+1) (by simp) ?_;intro g cap w4 hown hgr hat qF;have B5:Blk w4 (w.heap.size+2) 31 #[.int .i64 6,.int .i64 0,.string ⟨#[]⟩,.slice al m cl,.slice ak m ck]:=(hgr.block (w.heap.size+2) Ov.lt (fun e=>by have:=(hkb _ e.symm).1;omega)).trans Ov;have c5:=(B5.cell 4).trans (show _=some (Value.slice ak m ck) from rfl);have z5:=B5.frozen 4));all_goals (go_wp2_with fail)
      all_goals go_meet
      all_goals (refine ⟨_,by simpa using B5.aS 4 (.slice (some ⟨g,0,none⟩) (m+1) cap),?_,?_⟩)
      all_goals first
       | exact ((hf.andThen fA (fun _ _ e=>e.elim)).grown hgr (fun j hj hlt=>absurd (hkb j hj).1 (by omega))).only _
       | (
        have sK:=(st2.key key g cap (by rw [Gi];exact hown) hgr (by simpa using hat)).N7 (X:=Only (w.heap.size+2)) ((Fr.refl _ w4).only (b:=w.heap.size+2) (o:=4) (.slice (some ⟨g,0,none⟩) (m+1) cap)) (fun y hy=>by
         have e:y=w.heap.size+2:=hy;exact ⟨fun h=>by have:=HS.out y h;omega,by omega⟩)
        rw [Gi] at sK;exact sK)
     case rest=>
      obtain ⟨Cc,B3,Qe,f3⟩:=hcut;have Wa:=JH.out wc f3;obtain ⟨e0,e1,e2,e3,e4⟩:=HE.out wc Wa;obtain ⟨Wb,B1'⟩:=HB.out wc f3;have D3:wc.cell? ⟨w.heap.size,3,none⟩=some (.slice (some ⟨gl,ol,none⟩) l.length lc):=(Wb.cell 3).trans rfl;have O3:wc.cell? ⟨w.heap.size+2,3,none⟩=some (.slice al m cl):=(B3.cell 3).trans rfl;have Ab:Fr NoB wc (wc.drew.alloc (.cells #[v0,v1,v2,v3,v4] 31)):=(Fr.refl NoB wc).drew.alloc _;have CC:=Qe.fr Ab;obtain ⟨cs1,sU⟩:=CC.F0;rw [Fh] at sU;obtain ⟨hlv,qE⟩:=Qe.RI;obtain ⟨ak',ck',hk'⟩:=Qe.RH;(have RZ:w.heap.size+3<=wc.heap.size:=by rw [<- xA];exact f3.size);have B4:Blk (wc.drew.alloc (.cells #[v0,v1,v2,v3,v4] 31)) (w.heap.size+2) 31 #[.int .i64 6,.int .i64 0,.string ⟨#[]⟩,.slice al m cl,Cc]:=Ab.blk B3 (fun e=>e);have cA3:(wc.alloc (.cells #[v0,v1,v2,v3,v4] 31)).cell? ⟨w.heap.size+2,3,none⟩=some (.slice al m cl):=(B4.cell 3).trans rfl;have Uz:aG (ux S wc.heap.size wc.heap.size) (wc.drew.alloc (.cells #[v0,v1,v2,v3,v4] 31)) x (.agg #[v0,v1,v2,v3,v4]):=aG.mono (fun y hy=>Or.inl hy) _ _ (aG.fr (fun y hy=>(Wa.trans Ab).block y (HS.out y hy) (fun e=>e)) _ _ UA.out);clear Wb B1' D4 d3 d4 o3 o4 O4 eq' st1 st2 sS Ov cA cj hkb;go_wp2_with fail;go_region_law (first|(refine step_append_lies _ (by rfl) _ _ _ (by rfl) (w.heap.size+3) 31 i1 (jV 0 0 [] (.slice none 0 0) (.slice none 0 0)) 5 80 Tryz.underlying28 IG nw um yy (by rfl) (by decide) (.slice al m cl) m cs1 (by rfl) sU ⟨wc.heap.size,0,none⟩ 1 1 [v0,v1,v2,v3,v4] (by rfl) (by rfl) (World.news_of_block (cs := #[v0,v1,v2,v3,v4]) (t:=31) (fr:=(0,0)) (heap_alloc_new wc.drew _)) o1 (by omega) (by unfold maxLen;omega) (by omega) (by simp;omega) (wc.heap.size+1) (by simp) ?_;intro g cap w4 hown hgr hat qF;have B5:Blk w4 (w.heap.size+2) 31 #[.int .i64 6,.int .i64 0,.string ⟨#[]⟩,.slice al m cl,Cc]:=(hgr.block (w.heap.size+2) B4.lt (fun e=>by have:=(hlv _ e.symm).1;omega)).trans B4;have c5:=(B5.cell 3).trans (show _=some (Value.slice al m cl) from rfl);have z5:=B5.frozen 3));all_goals (go_wp2_with fail)
      all_goals (refine ⟨⟨m+1,.slice (some ⟨g,0,none⟩) (m+1) cap,Cc,by omega,by simpa using B5.aS 3 (.slice (some ⟨g,0,none⟩) (m+1) cap),?_,?_⟩,?_⟩)
      all_goals first
       | exact ((f3.andThen Ab (fun _ _ e=>e.elim)).grown hgr (fun j hj hlt=>absurd (hlv j hj).1 (by omega))).only _
       | (
        have sI:=(CC.item (lo2:=wc.heap.size) (hi:=wc.heap.size) (fun y hy=>by have:=HS.out y hy;omega) Uz RZ (by simp) (by simp;omega) (fun y hy=>(hlv y hy).2) (fun y hy=>(qE y hy).2) g cap (by rw [Fh];exact sU) (by rw [Fh];exact hown) hgr (by simpa using hat)).N7 (X:=Only (w.heap.size+2)) ((Fr.refl _ w4).only (b:=w.heap.size+2) (o:=3) (.slice (some ⟨g,0,none⟩) (m+1) cap)) (fun y hy=>by
         have e:y=w.heap.size+2:=hy;exact ⟨fun h=>by have:=HS.out y h;omega,by omega⟩)
        rw [Fh] at sI;rw [Kl.out,MX.out];exact sI)
       | (
        have hL1:Ai (w4.setCell ⟨w.heap.size+2,3,none⟩ (.slice (some ⟨g,0,none⟩) (m+1) cap)) ⟨w.heap.size+2,4,none⟩=m+1:=by
         unfold Ai;rw [((B5.aS 3 (.slice (some ⟨g,0,none⟩) (m+1) cap)).cell 4).trans (show _=some Cc from rfl),hk'];simp [Gi]
        rw [hL1,hL0.out];omega)
  ·obtain rfl:m=l.length:=by omega
   rw [show (ey l ks).take l.length=ey l ks by rw [<- dI l ks,List.take_length]] at cj;rw [show (aU l ks).take l.length=aU l ks by rw [<- cG l ks,List.take_length]] at cj;have dw:=bU 6 0 ⟨#[]⟩ al ak l.length cl l.length ck;have fX:Fr (Only (w.heap.size+1)) wr (wr.setRow (w.heap.size+1) #[.int .i64 6,.int .i64 0,.string ⟨#[]⟩,.slice al l.length cl,.slice ak l.length ck]):=Fr.eE _ _ _;have fN:Fr NoB w (wr.setRow (w.heap.size+1) #[.int .i64 6,.int .i64 0,.string ⟨#[]⟩,.slice al l.length cl,.slice ak l.length ck]):=(JH.out wr hf).setRow (w.heap.size+1) _ (Or.inl (by omega));have Wc:=cj.N7 fX (fun y hy=>by
    have e:y=w.heap.size+1:=hy;exact ⟨fun h=>by have:=HS.out y h;omega,by omega⟩)
   obtain ⟨cs',q1,q2,q3⟩:=Wc.cells (b:=w.heap.size) (by omega);have rN:=B1.setRow #[.int .i64 6,.int .i64 0,.string ⟨#[]⟩,.slice al l.length cl,.slice ak l.length ck];have hKB:=YQ.out;have hKL:=Ow.out;clear HB HL HS YQ MO Ow cj fX Wc st;go_wp2_with (first|(refine gI rfl _ rfl (w.heap.size+2) rfl B2 rfl ?_)|(refine wpList_store_row rfl 31 _ _ rfl (w.heap.size+1) #[.int .i64 6,.int .i64 0,.string ⟨#[]⟩,.slice al l.length cl,.slice ak l.length ck] rfl rfl 31 zj B1 ah rfl dw ?_));refine bodyPost_ret (v:=jV 6 0 [] (.slice al l.length cl) (.slice ak l.length ck)) (bG rfl _ _ (w.heap.size+1) _ _ _ _ _ rfl rN) rfl ⟨_,rfl,?_,fN⟩;simp only [aG];rw [cG] at q3;rw [dI] at q2;exact ⟨_,_,rfl,by unfold IntOk;omega,by unfold IntOk;omega,by simp,⟨by rw [cG];exact q3,by rw [cG];unfold big;omega,fun s hs=>hKB.2 s ((nz hKL.1).mem_iff.1 hs)⟩,by rw [dI];unfold big;omega,cs',q1,by rw [dI];exact q2⟩
def Km:Jv->Jv
 | .mk k i t l ks=>if k=6 then .mk 6 0 [] (ey l ks) (aU l ks) else .mk k i t l ks
theorem Qf {k i:Int} {t:Bs} {l:List Jv} {ks:List Bs} (h:IH (.mk k i t l ks)=true):aW k i t l.length ks=true/\∀ x∈l,IH x=true:=by
 rw [IH,Bool.and_eq_true] at h;exact ⟨h.1,zL h.2⟩
theorem Kn {i:Int} {t:Bs} {l:List Jv} {ks:List Bs} (h:IH (.mk 6 i t l ks)=true):i=0/\t=[]/\ks.length=l.length/\ks.Nodup:=by
 have h1:=(Qf h).1;have h2:=(jZ h1).2.2 rfl;unfold aW at h1;simp only [Bool.and_eq_true,gL,gg,Bool.or_eq_true] at h1;obtain ⟨⟨_,hi⟩,ht⟩:=h1;refine ⟨?_,?_,h2.1,h2.2⟩
 ·rcases hi with hi|hi
  ·simpa using hi
  ·exact absurd hi.1.1 (by decide)
 ·rcases ht with ht|ht
  ·simpa using ht
  ·exact absurd ht.1 (by decide)
theorem Oy (j:Jv) (S:Nat->Prop) (v:Value) (w:World) (hS:∀ g,S g->g<w.heap.size) (hat:aG S w j v) (gi:IH j=true) (hsz:iY j<=8388608) :
  Calls Tryz.prog 110 #[v] w fun e w'=>∃ u,e=.returned u/\aG (ux S w.heap.size w'.heap.size) w' (Km j) u/\Fr NoB w w':=by
 cases j with
 | mk k i t l ks=>
  have CB:=hat;simp only [aG] at hat;obtain ⟨lv,kv,rfl,hk,hi,ht,gH,hl,cs,hcs,dd⟩:=hat;obtain ⟨la,lc,rfl⟩:=dd.sl;obtain ⟨ka,kc,rfl⟩:=gH.1.sl;have iB:=qJ l;simp only [iY] at hsz;by_cases h6:k=6
  ·subst h6;obtain ⟨rfl,rfl,h1,h2⟩:=Kn gi;rw [Km,if_pos rfl];exact CG l ks S 0 [] la ka lc kc w hS gH cs hcs dd (by omega) h1 h2
  ·have h6b:(k != 6)=true:=by simpa using h6
   rw [Km,if_neg h6];have f:Fr NoB w ((w.alloc (.cells #[.int .i64 k,.int .i64 i,.string ⟨t.toArray⟩,.slice la l.length lc,.slice ka ks.length kc] 31)).alloc (.cells zj 31)):=((Fr.refl _ _).alloc _).alloc _;have g0:Blk ((w.alloc (.cells #[.int .i64 k,.int .i64 i,.string ⟨t.toArray⟩,.slice la l.length lc,.slice ka ks.length kc] 31)).alloc (.cells zj 31)) w.heap.size 31 #[.int .i64 k,.int .i64 i,.string ⟨t.toArray⟩,.slice la l.length lc,.slice ka ks.length kc]:=(Blk.new w 31 _).alloc _;have g1:Blk ((w.alloc (.cells #[.int .i64 k,.int .i64 i,.string ⟨t.toArray⟩,.slice la l.length lc,.slice ka ks.length kc] 31)).alloc (.cells zj 31)) (w.heap.size+1) 31 zj:=by
    have:=Blk.new (w.alloc (.cells #[.int .i64 k,.int .i64 i,.string ⟨t.toArray⟩,.slice la l.length lc,.slice ka ks.length kc] 31)) 31 zj;simpa using this
   generalize hW:(w.alloc (.cells #[.int .i64 k,.int .i64 i,.string ⟨t.toArray⟩,.slice la l.length lc,.slice ka ks.length kc] 31)).alloc (.cells zj 31)=W at f g0 g1;have HW:=hd' hW;have c0:W.cell? ⟨w.heap.size,0,none⟩=some (.int .i64 k):=(g0.cell 0).trans rfl;have dw:=bU k i ⟨t.toArray⟩ la ka l.length lc ks.length kc;have rN:=g1.setRow #[.int .i64 k,.int .i64 i,.string ⟨t.toArray⟩,.slice la l.length lc,.slice ka ks.length kc];have fN:=f.setRow (w.heap.size+1) #[.int .i64 k,.int .i64 i,.string ⟨t.toArray⟩,.slice la l.length lc,.slice ka ks.length kc] (Or.inl (by omega));have UA:=hd' CB;have HS:=hd' hS;clear hW CB hcs dd gH hS h6;go_enter Tryz.func110,Tryz.ntmps110;go_wp2_with (first|(refine gI rfl _ rfl w.heap.size rfl g0 rfl ?_)|(refine wpList_store_row rfl 31 _ _ rfl (w.heap.size+1) #[.int .i64 k,.int .i64 i,.string ⟨t.toArray⟩,.slice la l.length lc,.slice ka ks.length kc] rfl rfl 31 zj g1 ah rfl dw ?_)|(rw [HW.out]));refine bodyPost_ret (v:=jV k i t (.slice la l.length lc) (.slice ka ks.length kc)) (bG rfl _ _ (w.heap.size+1) _ _ _ _ _ rfl rN) rfl ⟨_,rfl,?_,fN⟩;exact aG.mono (fun g hg=>Or.inl hg) _ _ (aG.fr (fun g hg=>fN.block g (HS.out g hg) (fun e=>e)) _ _ UA.out)
end Go.Proofs.YtbifjamddbpcjaaGreatDoor
