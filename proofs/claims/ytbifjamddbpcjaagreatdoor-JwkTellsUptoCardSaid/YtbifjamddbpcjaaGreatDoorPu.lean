/- The document's keys (layer 10): put. -/
import Derived.Test.YtbifjamddbpcjaaGreatDoorSo
namespace Go.Proofs.YtbifjamddbpcjaaGreatDoor
set_option maxRecDepth 100000
set_option maxHeartbeats 25600000
open Go.RowKit
def gR (nm:Bs) (l:List (Bs×Bs)):Nat:=(l.takeWhile (fun p => !decide (nm<p.1))).length
def aY (l:List (Bs×Bs)) (nm t:Bs):List (Bs×Bs):=l.take (gR nm l)++(nm,t)::l.drop (gR nm l)
theorem sR (nm:Bs) (l:List (Bs×Bs)):gR nm l<=l.length:=(List.takeWhile_sublist _).length_le
theorem Em (nm:Bs):∀ (l:List (Bs×Bs)) (i:Nat) (h:i<l.length),i<gR nm l->¬ nm<l[i].1
 | [],i,h,_=>by simp at h
 | p::r,i,h,hi=>by
  unfold gR at hi;rw [List.takeWhile_cons] at hi;split at hi
  ·rename_i hp
   cases i with
   | zero=>simpa using hp
   | succ i=>exact Em nm r i (by simpa using h) (by simpa [gR] using hi)
  ·simp at hi
theorem Kh (nm:Bs):∀ (l:List (Bs×Bs)) (h:gR nm l<l.length),nm<(l[gR nm l]'h).1
 | [],h=>by simp at h
 | p::r,h=>by
  by_cases hp:nm<p.1
  ·have e:gR nm (p::r)=0:=by unfold gR;rw [List.takeWhile_cons];simp [hp]
   simp only [e,List.getElem_cons_zero];exact hp
  ·have e:gR nm (p::r)=gR nm r+1:=by unfold gR;rw [List.takeWhile_cons];simp [hp]
   have h2:gR nm r<r.length:=by rw [e] at h;simpa using h
   simp only [e,List.getElem_cons_succ];exact Kh nm r h2
def jy (l:List (Bs×Bs)) (nm t:Bs) (i:Nat):List (Bs×Bs):=if i<=gR nm l then l.take i else l.take (gR nm l)++(nm,t)::(l.drop (gR nm l)).take (i - gR nm l)
def pN (l:List (Bs×Bs)) (nm t:Bs) (i:Nat):List (Bs×Bs):=if i=gR nm l then jy l nm t i++[(nm,t)] else jy l nm t i
theorem lQ {α:Type} (l:List α) (p d:Nat) (h:p+d<l.length):(l.drop p).take d++[l[p+d]]=(l.drop p).take (d+1):=by
 have h2:d<(l.drop p).length:=by rw [List.length_drop];omega
 rw [List.take_succ_eq_append_getElem h2,List.getElem_drop]
theorem Ki {l:List (Bs×Bs)} {nm t:Bs} {i:Nat} (h:i<l.length):pN l nm t i++[l[i]]=jy l nm t (i+1):=by
 unfold pN;by_cases hne:i=gR nm l
 ·rw [if_pos hne];unfold jy;rw [if_pos (by omega),if_neg (by omega)];subst hne;have h2:=lQ l (gR nm l) 0 (by omega);rw [show gR nm l+1 - gR nm l=0+1 by omega,<- h2];simp
 ·rw [if_neg hne];unfold jy;by_cases hlt:i<gR nm l
  ·rw [if_pos (by omega),if_pos (by omega)];exact (List.take_succ_eq_append_getElem h).symm
  ·rw [if_neg (by omega),if_neg (by omega)];obtain ⟨d,hd⟩:∃ d,i=gR nm l+d:=⟨i - gR nm l,by omega⟩;subst hd;rw [show gR nm l+d - gR nm l=d by omega,show gR nm l+d+1 - gR nm l=d+1 by omega,<- lQ l (gR nm l) d h];simp
theorem Oj (l:List (Bs×Bs)) (nm t:Bs):jy l nm t (l.length+1)=aY l nm t:=by
 have:=sR nm l;unfold jy aY;have e:(l.drop (gR nm l)).take (l.length+1 - gR nm l)=l.drop (gR nm l):=List.take_of_length_le (by rw [List.length_drop];omega);rw [if_neg (by omega),e]
theorem Ol {l:List (Bs×Bs)} {nm t:Bs}:pN l nm t l.length=jy l nm t (l.length+1):=by
 have hp:=sR nm l;unfold pN;by_cases hne:l.length=gR nm l
 ·rw [if_pos hne];unfold jy;rw [if_pos (by omega),if_neg (by omega),<- hne];simp
 ·rw [if_neg hne];unfold jy;have e:∀ d,l.length - gR nm l<=d->(l.drop (gR nm l)).take d=l.drop (gR nm l):=fun d hd=>List.take_of_length_le (by rw [List.length_drop];omega);rw [if_neg (by omega),if_neg (by omega),e _ (by omega),e _ (by omega)]
theorem En (l:List (Bs×Bs)) (nm t:Bs) (i:Nat) (h:i<=l.length):(jy l nm t i).length<=l.length+1:=by
 unfold jy;split
 ·simp;omega
 ·simp;omega
theorem Om (l:List (Bs×Bs)) (nm t:Bs) (i:Nat) (h:i<=l.length):(pN l nm t i).length<=l.length+1:=by
 have hp:=sR nm l;unfold pN;split
 ·rename_i e
  unfold jy;rw [if_pos (by omega)];simp;omega
 ·exact En l nm t i h
def mQ (l:List (Bs×Bs)):List Jv:=l.map (fun p=>textJ p.2)
def mR (l:List (Bs×Bs)):List Bs:=l.map (fun p=>p.1)
theorem vH (l:List (Bs×Bs)) (p:Bs×Bs):mQ (l++[p])=mQ l++[textJ p.2]:=by simp [mQ]
theorem vI (l:List (Bs×Bs)) (p:Bs×Bs):mR (l++[p])=mR l++[p.1]:=by simp [mR]
theorem bY (l:List (Bs×Bs)):(mQ l).length=l.length:=by simp [mQ]
theorem cY (l:List (Bs×Bs)):(mR l).length=l.length:=by simp [mR]
theorem Kj (T:Nat->Prop) (u:World) (t:Bs) (ht:t.length<=big):aG T u (textJ t) (.agg #[.int .i64 4,.int .i64 0,.string ⟨t.toArray⟩,.slice none 0 0,.slice none 0 0]):=by
 simp only [textJ,aG];exact ⟨_,_,rfl,by unfold IntOk;omega,by unfold IntOk;omega,ht,⟨Or.inl ⟨rfl,none,0,rfl⟩,Nat.zero_le _,fun s hs=>by simp at hs⟩,Nat.zero_le _,[],by simp [aq],Or.inl ⟨rfl,none,0,rfl⟩⟩
theorem vk (l:List (Bs×Bs)) (nm t:Bs) (S:Nat->Prop) (v:Value) (w:World) (hS:∀ g,S g->g<w.heap.size) (hat:aG S w (cE l) v) (iB:l.length<=1000) (NF:nm.length<=big) (ht:t.length<=big) :
  Calls Tryz.prog 28 #[v,.string ⟨nm.toArray⟩,.string ⟨t.toArray⟩] w fun e w'=>∃ u,e=.returned u/\aG (ux S w.heap.size w'.heap.size) w' (cE (aY l nm t)) u/\Fr NoB w w':=by
 obtain ⟨i1,IG,nw,um,yy⟩:=info_parts mv;obtain ⟨i0,jv,hz0,hz1,hz2⟩:=info_parts oB;have hN1:=bY l;have hN2:=cY l;have CB:aG S w (.mk 6 0 [] (mQ l) (mR l)) v:=hat;simp only [aG] at CB;obtain ⟨lv0,kv0,rfl,-,-,-,gH,-,cs,hcs,dd⟩:=CB;obtain ⟨la,lc,rfl⟩:=dd.sl;obtain ⟨ka,kc,rfl⟩:=gH.1.sl;rw [hN1] at dd;rw [hN1,hN2];have HNK:Hid (∀ s∈mR l,s.length<=big):=hd' gH.2.2;have RY:=gH.1;rw [hN2] at RY;have f:Fr NoB w (((w.alloc (.cells #[.int .i64 6,.int .i64 0,.string ⟨#[]⟩,.slice la l.length lc,.slice ka l.length kc] 31)).alloc (.cells zj 31)).alloc (.cells zj 31)):=(((Fr.refl _ _).alloc _).alloc _).alloc _;have g0:Blk (((w.alloc (.cells #[.int .i64 6,.int .i64 0,.string ⟨#[]⟩,.slice la l.length lc,.slice ka l.length kc] 31)).alloc (.cells zj 31)).alloc (.cells zj 31)) w.heap.size 31 #[.int .i64 6,.int .i64 0,.string ⟨#[]⟩,.slice la l.length lc,.slice ka l.length kc]:=((Blk.new w 31 _).alloc _).alloc _;have g1:Blk (((w.alloc (.cells #[.int .i64 6,.int .i64 0,.string ⟨#[]⟩,.slice la l.length lc,.slice ka l.length kc] 31)).alloc (.cells zj 31)).alloc (.cells zj 31)) (w.heap.size+1) 31 zj:=by
  have:=(Blk.new (w.alloc (.cells #[.int .i64 6,.int .i64 0,.string ⟨#[]⟩,.slice la l.length lc,.slice ka l.length kc] 31)) 31 zj).alloc (.cells zj 31);simpa using this
 have g2:Blk (((w.alloc (.cells #[.int .i64 6,.int .i64 0,.string ⟨#[]⟩,.slice la l.length lc,.slice ka l.length kc] 31)).alloc (.cells zj 31)).alloc (.cells zj 31)) (w.heap.size+2) 31 zj:=by
  have:=Blk.new ((w.alloc (.cells #[.int .i64 6,.int .i64 0,.string ⟨#[]⟩,.slice la l.length lc,.slice ka l.length kc] 31)).alloc (.cells zj 31)) 31 zj;simpa using this
 have Cb:(((w.alloc (.cells #[.int .i64 6,.int .i64 0,.string ⟨#[]⟩,.slice la l.length lc,.slice ka l.length kc] 31)).alloc (.cells zj 31)).alloc (.cells zj 31)).heap.size=w.heap.size+3:=by simp
 generalize hW:(((w.alloc (.cells #[.int .i64 6,.int .i64 0,.string ⟨#[]⟩,.slice la l.length lc,.slice ka l.length kc] 31)).alloc (.cells zj 31)).alloc (.cells zj 31))=W at f g0 g1 g2 Cb;have HW:=hd' hW;have il:=bU 6 0 ⟨#[]⟩ none none 0 0 0 0;have fO:=Fr.eE W (w.heap.size+2) #[.int .i64 6,.int .i64 0,.string ⟨#[]⟩,.slice none 0 0,.slice none 0 0];have G2:=g2.setRow #[.int .i64 6,.int .i64 0,.string ⟨#[]⟩,.slice none 0 0,.slice none 0 0];have G0:=fO.blk g0 (fun e=>by have e':w.heap.size=w.heap.size+2:=e;omega);have G1:=fO.blk g1 (fun e=>by have e':w.heap.size+1=w.heap.size+2:=e;omega);have fF:Fr NoB w (W.setRow (w.heap.size+2) #[.int .i64 6,.int .i64 0,.string ⟨#[]⟩,.slice none 0 0,.slice none 0 0]):=f.setRow (w.heap.size+2) _ (Or.inl (by omega));have xA:(W.setRow (w.heap.size+2) #[.int .i64 6,.int .i64 0,.string ⟨#[]⟩,.slice none 0 0,.slice none 0 0]).heap.size=w.heap.size+3:=by rw [<- Cb];simp [World.setRow]
 generalize hV:W.setRow (w.heap.size+2) #[.int .i64 6,.int .i64 0,.string ⟨#[]⟩,.slice none 0 0,.slice none 0 0]=V at fO G2 G0 G1 fF xA;have HV:=hd' hV;have HB:Hid (∀ u,Fr (Only (w.heap.size+2)) V u->Blk u w.heap.size 31 #[.int .i64 6,.int .i64 0,.string ⟨#[]⟩,.slice la l.length lc,.slice ka l.length kc]/\Blk u (w.heap.size+1) 31 zj):=hd' (fun u fu=>⟨fu.blk G0 (fun e=>by have e':w.heap.size=w.heap.size+2:=e;omega),fu.blk G1 (fun e=>by have e':w.heap.size+1=w.heap.size+2:=e;omega)⟩);have HL:=hd' (And.intro hcs dd);have MO:=hd' RY;have HS:=hd' hS;have st:cw S (w.heap.size+3) V (mQ (jy l nm t 0)) (mR (jy l nm t 0)) (.slice none 0 0) (.slice none 0 0):=by
  have e:jy l nm t 0=[]:=by unfold jy;rw [if_pos (Nat.zero_le _)];rfl
  rw [e];exact ⟨[],fun _=>False,World.ownsRow_nil _ _ _ _,World.ownsRow_nil _ _ _ _,by simp [aq,mQ],fun _ h=>h.elim,fun g hg=>by simp [Value.ownBlock] at hg⟩
 have JH:Hid (∀ u,Fr (Only (w.heap.size+2)) V u->Fr NoB w u):=hd' (fun u fu=>fF.andThen fu (fun j hj e=>by have e':j=w.heap.size+2:=e;omega));have HT:=hd' ht;have Uy:Hid (∀ s∈mR (aY l nm t),s.length<=big):=hd' (fun s hs=>by
  obtain ⟨p,hp,rfl⟩:=List.mem_map.1 hs;rcases List.mem_append.1 hp with h|h
  ·exact HNK.out _ (List.mem_map.2 ⟨p,List.mem_of_mem_take h,rfl⟩)
  ·rcases List.mem_cons.1 h with h|h
   ·rw [h];exact NF
   ·exact HNK.out _ (List.mem_map.2 ⟨p,List.mem_of_mem_drop h,rfl⟩))
 have aaY:=sR nm l;clear hW hV hcs dd gH RY hS g0 g1 fO G0 G1 hat ht NF;go_enter Tryz.func28,Tryz.ntmps28;go_wp2_with (first|(refine wpList_store_row rfl 31 _ _ rfl (w.heap.size+2) #[.int .i64 6,.int .i64 0,.string ⟨#[]⟩,.slice none 0 0,.slice none 0 0] rfl rfl 31 zj g2 ah rfl il ?_;rw [HV.out])|(rw [HW.out]));simp only [Nat.add_assoc,Nat.reduceAdd];go_loopw [8,9] (fun v8 v9 wr=>∃ (i:Nat) (lv kv:Value),i<=l.length+1/\v9=.int .i64 i/\v8=.bool (decide (gR nm l<i))/\Blk wr (w.heap.size+2) 31 #[.int .i64 6,.int .i64 0,.string ⟨#[]⟩,lv,kv]/\cw S (w.heap.size+3) wr (mQ (jy l nm t i)) (mR (jy l nm t i)) lv kv/\Fr (Only (w.heap.size+2)) V wr) (fun _ v9 _=>l.length+1 - (intOf v9).toNat)
 case atStart=>exact ⟨0,_,_,Nat.zero_le _,rfl,by simp,G2,st,Fr.refl _ _⟩
 case round=>
  obtain ⟨i,lv,kv,hi,rfl,rfl,B2,cj,hf⟩:=hrel;obtain ⟨B0,B1⟩:=HB.out _ hf;have d3:wr.cell? ⟨w.heap.size,3,none⟩=some (.slice la l.length lc):=(B0.cell 3).trans rfl;have d4:wr.cell? ⟨w.heap.size,4,none⟩=some (.slice ka l.length kc):=(B0.cell 4).trans rfl;have k0:(0:Int)<=i:=by omega
  have hsw:w.heap.size+3<=wr.heap.size:=by rw [<- xA];exact hf.size
  by_cases hlt:i<=l.length
  ·have k1:(i:Int)<=l.length:=by omega
   have fw:=JH.out wr hf;go_upto_region 6 with fail;go_cut [8,35] (fun v8 v35 wx=>v8=.bool (decide (gR nm l<i))/\v35=.bool (decide (i=gR nm l))/\wx=wr)
   case first=>
    by_cases hd:gR nm l<i
    ·(have e1:decide (gR nm l<i)=true:=by simpa using hd);have Gn:=hd' e1;(have e2:decide (i=gR nm l)=false:=by simp;omega);rw [e1];clear cj;go_wp2_with fail;go_meet;exact ⟨by rw [Gn.out],by rw [e2],rfl⟩
    ·(have e1:decide (gR nm l<i)=false:=by simpa using hd);have Gn:=hd' e1;by_cases hL:i=l.length
     ·(have e2:decide (i=gR nm l)=true:=by simp;omega);(have e3:((i:Int)==(l.length:Int))=true:=by simp;omega);rw [e1];clear cj;go_wp2_with fail;go_meet;exact ⟨by rw [Gn.out],by rw [e2],rfl⟩
     ·(have Aa:i<l.length:=by omega);(have e3:((i:Int)==(l.length:Int))=false:=by simp;omega);(have k4:(i:Int)<l.length:=by omega);obtain ⟨gk,ok,rfl,wS⟩:=MO.out.P8 HS.out fw (by omega);have ep:=wS i (sV l[i].1) (by simp [mR,Aa]);have Bn:decide (i=gR nm l)=decide (nm<l[i].1):=by
       by_cases h:i=gR nm l
       ·have:=Kh nm l (by omega);simp only [<- h] at this;simp [h];simpa only [<- h] using this
       ·have:=Em nm l i Aa (by omega);simp [h,this]
      have Oo:=hd' Bn;rw [e1];clear Bn cj wS;generalize l[i].1=key at *;by_cases Oq:nm<key
      ·(have ju:Op.bytesLess key nm=false:=by rw [oC];simp;exact fun e=>List.lt_irrefl _ (jG Oq e));(have MG:(key==nm)=false:=by simp;intro e;rw [e] at Oq;exact List.lt_irrefl _ Oq);(have ed:decide (nm<key)=true:=by simpa using Oq);have YO:=hd' ed;clear Oq ed;go_wp2_with fail;go_meet;exact ⟨by rw [Gn.out],by rw [Oo.out,YO.out],rfl⟩
      ·(have ed:decide (nm<key)=false:=by simpa using Oq);have YO:=hd' ed;by_cases he:key=nm
       ·(have ju:Op.bytesLess key nm=false:=by rw [oC,he];simp);(have MG:(key==nm)=true:=by simpa using he);clear Oq ed he;go_wp2_with fail;go_meet;exact ⟨by rw [Gn.out],by rw [Oo.out,YO.out],rfl⟩
       ·have ju:Op.bytesLess key nm=true:=by
         rw [oC];simp;rcases Classical.em (key<nm) with h|h
         ·exact h
         ·exact absurd (List.le_antisymm (List.not_lt.1 Oq) (List.not_lt.1 h)) he
        clear Oq ed he;go_wp2_with fail;go_meet;exact ⟨by rw [Gn.out],by rw [Oo.out,YO.out],rfl⟩
   case rest=>
   obtain ⟨rfl,rfl,rfl⟩:=hcut;go_upto_if 35 with fail;go_cut [8] (fun v8 wx=>v8=.bool (decide (gR nm l<i+1))/\∃ lv kv:Value,Blk wx (w.heap.size+2) 31 #[.int .i64 6,.int .i64 0,.string ⟨#[]⟩,lv,kv]/\cw S (w.heap.size+3) wx (mQ (pN l nm t i)) (mR (pN l nm t i)) lv kv/\Fr (Only (w.heap.size+2)) V wx)
   case first=>
    by_cases hp:i=gR nm l
    ·(have ed:decide (i=gR nm l)=true:=by simpa using hp);(have e8:decide (gR nm l<i+1)=true:=by simp;omega);have HMP:Hid (pN l nm t i=jy l nm t i++[(nm,t)]):=hd' (by unfold pN;rw [if_pos hp]);have Br:=En l nm t i hlt;have HE8:=hd' e8;rw [ed];clear hp ed e8 aaY;generalize jy l nm t i=Q at *;obtain ⟨ak,ck,rfl⟩:=cj.RH;obtain ⟨al,cl,rfl⟩:=cj.Uu;simp only [cY,bY] at cj B2;have o4:wc.cell? ⟨w.heap.size+2,4,none⟩=some (.slice ak Q.length ck):=(B2.cell 4).trans rfl;have fk:Fr NoB wc (wc.alloc (.cells #[.string ⟨nm.toArray⟩] 9)):=(Fr.refl NoB wc).alloc _;have sk:=cj.fr fk;have sS:=sk.keys;rw [cY] at sS;have YP:Blk (wc.alloc (.cells #[.string ⟨nm.toArray⟩] 9)) (w.heap.size+2) 31 #[.int .i64 6,.int .i64 0,.string ⟨#[]⟩,.slice al Q.length cl,.slice ak Q.length ck]:=B2.alloc _;have hkb:=sk.RI.2;have cA:(wc.alloc (.cells #[.string ⟨nm.toArray⟩] 9)).cell? ⟨w.heap.size+2,4,none⟩=some (.slice ak Q.length ck):=(YP.cell 4).trans rfl;go_upto_region 8 with (at_builtin;go_loud (refine wpList_append_lies _ rfl _ _ 29 rfl (w.heap.size+3) 9 i0 (.string ⟨#[]⟩) 1 16 Tryz.underlying29 jv hz0 hz1 hz2 rfl (by decide) (.slice ak Q.length ck) Q.length _ rfl sS ⟨wc.heap.size,0,none⟩ 1 1 [.string ⟨nm.toArray⟩] rfl rfl (World.news_of_block (cs := #[.string ⟨nm.toArray⟩]) (t:=9) (fr:=(0,0)) (heap_alloc_new wc _)) (by intro u hu;rw [List.mem_singleton] at hu;subst hu;rfl) (by omega) (by unfold maxLen;omega) (by omega) (by simp;omega) (wc.heap.size+1) (by simp) ?_;intro g cap w4 hown hgr hat qF;have B5:Blk w4 (w.heap.size+2) 31 #[.int .i64 6,.int .i64 0,.string ⟨#[]⟩,.slice al Q.length cl,.slice ak Q.length ck]:=(hgr.block (w.heap.size+2) YP.lt (fun e=>by have:=(hkb _ e.symm).1;omega)).trans YP;have c5:=(B5.cell 4).trans (show _=some (Value.slice ak Q.length ck) from rfl);have z5:=B5.frozen 4));(have B6:Blk (w4.setCell ⟨w.heap.size+2,4,none⟩ (.slice (some ⟨g,0,none⟩) (Q.length+1) cap)) (w.heap.size+2) 31 #[.int .i64 6,.int .i64 0,.string ⟨#[]⟩,.slice al Q.length cl,.slice (some ⟨g,0,none⟩) (Q.length+1) cap]:=by simpa using B5.aS 4 (.slice (some ⟨g,0,none⟩) (Q.length+1) cap));have F6:=((hf.andThen fk (fun _ _ e=>e.elim)).grown hgr (fun j hj hlt=>absurd (hkb j hj).1 (by omega))).only (o:=4) (.slice (some ⟨g,0,none⟩) (Q.length+1) cap);have sK:=(sk.key nm g cap (by rw [cY];exact hown) hgr (by simpa using hat)).N7 (X:=Only (w.heap.size+2)) ((Fr.refl _ w4).only (b:=w.heap.size+2) (o:=4) (.slice (some ⟨g,0,none⟩) (Q.length+1) cap)) (fun y hy=>by
      have e:y=w.heap.size+2:=hy;exact ⟨fun h=>by have:=HS.out y h;omega,by omega⟩)
     rw [cY] at sK;(have aa1:w.heap.size+3<=(w4.setCell ⟨w.heap.size+2,4,none⟩ (.slice (some ⟨g,0,none⟩) (Q.length+1) cap)).heap.size:=by rw [<- xA];exact F6.size);clear B5 c5 z5 hown hgr hat qF cA hkb YP sS sk fk o4 B2 cj hf hsw d3 d4 B0 B1;generalize w4.setCell ⟨w.heap.size+2,4,none⟩ (.slice (some ⟨g,0,none⟩) (Q.length+1) cap)=w5 at *;have o3:w5.cell? ⟨w.heap.size+2,3,none⟩=some (.slice al Q.length cl):=(B6.cell 3).trans rfl;have Ab:Fr NoB w5 (w5.alloc (.cells #[.int .i64 4,.int .i64 0,.string ⟨t.toArray⟩,.slice none 0 0,.slice none 0 0] 31)):=(Fr.refl NoB w5).alloc _;have CC:=sK.fr Ab;obtain ⟨cs1,sU⟩:=CC.F0;rw [bY] at sU;obtain ⟨hlv,qE⟩:=sK.RI;have B4:Blk (w5.alloc (.cells #[.int .i64 4,.int .i64 0,.string ⟨t.toArray⟩,.slice none 0 0,.slice none 0 0] 31)) (w.heap.size+2) 31 #[.int .i64 6,.int .i64 0,.string ⟨#[]⟩,.slice al Q.length cl,.slice (some ⟨g,0,none⟩) (Q.length+1) cap]:=Ab.blk B6 (fun e=>e);have cA3:(w5.alloc (.cells #[.int .i64 4,.int .i64 0,.string ⟨t.toArray⟩,.slice none 0 0,.slice none 0 0] 31)).cell? ⟨w.heap.size+2,3,none⟩=some (.slice al Q.length cl):=(B4.cell 3).trans rfl;have Uz:=Kj (ux S w5.heap.size w5.heap.size) (w5.alloc (.cells #[.int .i64 4,.int .i64 0,.string ⟨t.toArray⟩,.slice none 0 0,.slice none 0 0] 31)) t HT.out;go_wp2_with (at_builtin;go_loud (refine wpList_append_lies _ rfl _ _ 28 rfl (w.heap.size+3) 31 i1 (jV 0 0 [] (.slice none 0 0) (.slice none 0 0)) 5 80 Tryz.underlying28 IG nw um yy rfl (by decide) (.slice al Q.length cl) Q.length cs1 rfl sU ⟨w5.heap.size,0,none⟩ 1 1 [.int .i64 4,.int .i64 0,.string ⟨t.toArray⟩,.slice none 0 0,.slice none 0 0] rfl rfl (World.news_of_block (cs := #[.int .i64 4,.int .i64 0,.string ⟨t.toArray⟩,.slice none 0 0,.slice none 0 0]) (t:=31) (fr:=(0,0)) (heap_alloc_new w5 _)) (RJ (dp Uz.one)) (by omega) (by unfold maxLen;omega) (by omega) (by simp;omega) (w5.heap.size+1) (by simp) ?_;intro g2 Ot w7 hown hgr hat qF;have B5:Blk w7 (w.heap.size+2) 31 #[.int .i64 6,.int .i64 0,.string ⟨#[]⟩,.slice al Q.length cl,.slice (some ⟨g,0,none⟩) (Q.length+1) cap]:=(hgr.block (w.heap.size+2) B4.lt (fun e=>by have:=(hlv _ e.symm).1;omega)).trans B4;have c5:=(B5.cell 3).trans (show _=some (Value.slice al Q.length cl) from rfl);have z5:=B5.frozen 3));go_meet;refine ⟨by rw [HE8.out],.slice (some ⟨g2,0,none⟩) (Q.length+1) Ot,.slice (some ⟨g,0,none⟩) (Q.length+1) cap,by simpa using B5.aS 3 (.slice (some ⟨g2,0,none⟩) (Q.length+1) Ot),?_,((F6.andThen Ab (fun _ _ e=>e.elim)).grown hgr (fun j hj hlt=>absurd (hlv j hj).1 (by omega))).only _⟩;have sI:=(CC.item (lo2:=w5.heap.size) (hi:=w5.heap.size) (fun y hy=>by have:=HS.out y hy;omega) Uz aa1 (by simp) (by simp;omega) (fun y hy=>(hlv y hy).2) (fun y hy=>(qE y hy).2) g2 Ot (by rw [bY];exact sU) (by rw [bY];exact hown) hgr (by simpa using hat)).N7 (X:=Only (w.heap.size+2)) ((Fr.refl _ w7).only (b:=w.heap.size+2) (o:=3) (.slice (some ⟨g2,0,none⟩) (Q.length+1) Ot)) (fun y hy=>by
      have e:y=w.heap.size+2:=hy;exact ⟨fun h=>by have:=HS.out y h;omega,by omega⟩)
     rw [bY] at sI;rw [HMP.out,vH,vI];exact sI
    ·(have ed:decide (i=gR nm l)=false:=by simpa using hp);have HMP:Hid (pN l nm t i=jy l nm t i):=hd' (by unfold pN;rw [if_neg hp]);have HE8:Hid (decide (gR nm l<i+1)=decide (gR nm l<i)):=hd' (by
      by_cases h:gR nm l<i
      ·rw [decide_eq_true h,decide_eq_true (by omega)]
      ·rw [decide_eq_false h,decide_eq_false (by omega)])
     rw [ed];go_wp2_with fail;go_meet;exact ⟨by rw [HE8.out],lv,kv,B2,by rw [HMP.out];exact cj,hf⟩
   case rest=>
   clear B2 cj hf B0 B1 d3 d4 hsw fw;obtain ⟨rfl,lv,kv,B2,cj,hf⟩:=hcut;obtain ⟨B0,B1⟩:=HB.out _ hf;have d3:wc.cell? ⟨w.heap.size,3,none⟩=some (.slice la l.length lc):=(B0.cell 3).trans rfl;have d4:wc.cell? ⟨w.heap.size,4,none⟩=some (.slice ka l.length kc):=(B0.cell 4).trans rfl;have hsw:w.heap.size+3<=wc.heap.size:=by rw [<- xA];exact hf.size
   have uy:=Om l nm t i hlt;by_cases Aa:i<l.length
   ·(have k4:(i:Int)<l.length:=by omega);have fw:=JH.out wc hf;obtain ⟨gk,ok,rfl,wS⟩:=MO.out.P8 HS.out fw (by omega);have ep:=wS i (sV l[i].1) (by simp [mR,Aa]);obtain ⟨hcs,dd⟩:=HL.out;obtain ⟨gl,ol,rfl,hcell⟩:=dd.P8 HS.out fw (by omega);(have hio:i<(mQ l).length:=by rw [bY];exact Aa);obtain ⟨v0,v1,v2,v3,v4,p0,p1,p2,p3,p4,oz⟩:=aq.get (mQ l) cs i hio hcs;have HE:Hid (∀ u,Fr NoB w u->u.cell? ⟨gl,ol+i*5,none⟩=some v0/\u.cell? ⟨gl,ol+i*5+1,none⟩=some v1/\u.cell? ⟨gl,ol+i*5+2,none⟩=some v2/\u.cell? ⟨gl,ol+i*5+3,none⟩=some v3/\u.cell? ⟨gl,ol+i*5+4,none⟩=some v4):=hd' (fun u fu=>by
     obtain ⟨gl',ol',he,hc'⟩:=dd.P8 HS.out fu (by omega);simp only [Option.some.injEq,Addr.mk.injEq,and_true] at he;obtain ⟨rfl,rfl⟩:=he;exact ⟨hc' _ _ p0,hc' _ _ p1,hc' _ _ p2,hc' _ _ p3,hc' _ _ p4⟩)
    (have Qd:(mQ l)[i]=textJ l[i].2:=by simp [mQ]);rw [Qd] at oz;have UA:=hd' oz;have o1:=RJ (dp oz.one);have M8:=hd' (Ki (nm:=nm) (t:=t) Aa);clear wS hcs dd p0 p1 p2 p3 p4 oz hcell Qd hio;obtain ⟨⟨key,x⟩,Ou⟩:∃ p,p=l[i]:=⟨_,rfl⟩;rw [<- Ou] at ep UA M8;clear Ou;generalize pN l nm t i=Q at *;obtain ⟨ak,ck,rfl⟩:=cj.RH;obtain ⟨al,cl,rfl⟩:=cj.Uu;simp only [cY,bY] at cj B2;have o4:wc.cell? ⟨w.heap.size+2,4,none⟩=some (.slice ak Q.length ck):=(B2.cell 4).trans rfl;have st1:=cj.fr ((Fr.refl NoB wc).drew);have fa:Fr NoB wc.drew (wc.drew.alloc (.cells #[.string ⟨key.toArray⟩] 9)):=(Fr.refl NoB wc.drew).alloc _;have st2:=st1.fr fa;have sS:=st2.keys;rw [cY] at sS;have hkb:=st2.RI.2;have Ov:Blk (wc.drew.alloc (.cells #[.string ⟨key.toArray⟩] 9)) (w.heap.size+2) 31 #[.int .i64 6,.int .i64 0,.string ⟨#[]⟩,.slice al Q.length cl,.slice ak Q.length ck]:=(B2.drew).alloc _;have fA:Fr NoB wc (wc.drew.alloc (.cells #[.string ⟨key.toArray⟩] 9)):=(Fr.refl NoB wc).drew.trans fa;have cA:(wc.alloc (.cells #[sV key] 9)).cell? ⟨w.heap.size+2,4,none⟩=some (.slice ak Q.length ck):=(Ov.cell 4).trans rfl;obtain ⟨wq,hwq⟩:∃ z,z=wc:=⟨_,rfl⟩;subst hwq;go_upto_region 11 with fail;go_cut [] (fun wy=>∃ Cc,Blk wy (w.heap.size+2) 31 #[.int .i64 6,.int .i64 0,.string ⟨#[]⟩,.slice al Q.length cl,Cc]/\cw S (w.heap.size+3) wy (mQ Q) (mR Q++[key]) (.slice al Q.length cl) Cc/\Fr (Only (w.heap.size+2)) V wy)
    case first=>
     go_region_law (first|(refine step_append_lies _ (by rfl) _ _ _ (by rfl) (w.heap.size+3) 9 i0 (.string ⟨#[]⟩) 1 16 Tryz.underlying29 jv hz0 hz1 hz2 (by rfl) (by decide) (.slice ak Q.length ck) Q.length ((mR Q).map sV) (by rfl) sS ⟨wq.heap.size,0,none⟩ 1 1 [sV key] (by rfl) (by rfl) (World.news_of_block (cs := #[.string ⟨key.toArray⟩]) (t:=9) (fr:=(0,0)) (heap_alloc_new wq.drew _)) (by intro u hu;rw [List.mem_singleton] at hu;subst hu;rfl) (by omega) (by unfold maxLen;omega) (by omega) (by simp;omega) (wq.heap.size+1) (by simp) ?_;intro g cap w4 hown hgr hat qF;have B5:Blk w4 (w.heap.size+2) 31 #[.int .i64 6,.int .i64 0,.string ⟨#[]⟩,.slice al Q.length cl,.slice ak Q.length ck]:=(hgr.block (w.heap.size+2) Ov.lt (fun e=>by have:=(hkb _ e.symm).1;omega)).trans Ov;have c5:=(B5.cell 4).trans (show _=some (Value.slice ak Q.length ck) from rfl);have z5:=B5.frozen 4));all_goals (go_wp2_with fail)
     all_goals go_meet
     all_goals (refine ⟨_,by simpa using B5.aS 4 (.slice (some ⟨g,0,none⟩) (Q.length+1) cap),?_,?_⟩)
     all_goals first
      | exact ((hf.andThen fA (fun _ _ e=>e.elim)).grown hgr (fun j hj hlt=>absurd (hkb j hj).1 (by omega))).only _
      | (
       have sK:=(st2.key key g cap (by rw [cY];exact hown) hgr (by simpa using hat)).N7 (X:=Only (w.heap.size+2)) ((Fr.refl _ w4).only (b:=w.heap.size+2) (o:=4) (.slice (some ⟨g,0,none⟩) (Q.length+1) cap)) (fun y hy=>by
        have e:y=w.heap.size+2:=hy;exact ⟨fun h=>by have:=HS.out y h;omega,by omega⟩)
       rw [cY] at sK;exact sK)
    case rest=>
     obtain ⟨Cc,B3,Qe,f3⟩:=hcut;have Wa:=JH.out wc f3;obtain ⟨e0,e1,e2,e3,e4⟩:=HE.out wc Wa;obtain ⟨Wb,B1'⟩:=HB.out wc f3;have D3:wc.cell? ⟨w.heap.size,3,none⟩=some (.slice (some ⟨gl,ol,none⟩) l.length lc):=(Wb.cell 3).trans rfl;have O3:wc.cell? ⟨w.heap.size+2,3,none⟩=some (.slice al Q.length cl):=(B3.cell 3).trans rfl;have Ab:Fr NoB wc (wc.drew.alloc (.cells #[v0,v1,v2,v3,v4] 31)):=(Fr.refl NoB wc).drew.alloc _;have CC:=Qe.fr Ab;obtain ⟨cs1,sU⟩:=CC.F0;rw [bY] at sU;obtain ⟨hlv,qE⟩:=Qe.RI;(have RZ:w.heap.size+3<=wc.heap.size:=by rw [<- xA];exact f3.size);have B4:Blk (wc.drew.alloc (.cells #[v0,v1,v2,v3,v4] 31)) (w.heap.size+2) 31 #[.int .i64 6,.int .i64 0,.string ⟨#[]⟩,.slice al Q.length cl,Cc]:=Ab.blk B3 (fun e=>e);have cA3:(wc.alloc (.cells #[v0,v1,v2,v3,v4] 31)).cell? ⟨w.heap.size+2,3,none⟩=some (.slice al Q.length cl):=(B4.cell 3).trans rfl;have Uz:aG (ux S wc.heap.size wc.heap.size) (wc.drew.alloc (.cells #[v0,v1,v2,v3,v4] 31)) (textJ x) (.agg #[v0,v1,v2,v3,v4]):=aG.mono (fun y hy=>Or.inl hy) _ _ (aG.fr (fun y hy=>(Wa.trans Ab).block y (HS.out y hy) (fun e=>e)) _ _ UA.out);clear Wb B1' d3 d4 o4 ep st1 st2 sS Ov cA cj hkb B0 B1 B2 hf fA fa hsw;go_wp2_with fail;go_region_law (first|(refine step_append_lies _ (by rfl) _ _ _ (by rfl) (w.heap.size+3) 31 i1 (jV 0 0 [] (.slice none 0 0) (.slice none 0 0)) 5 80 Tryz.underlying28 IG nw um yy (by rfl) (by decide) (.slice al Q.length cl) Q.length cs1 (by rfl) sU ⟨wc.heap.size,0,none⟩ 1 1 [v0,v1,v2,v3,v4] (by rfl) (by rfl) (World.news_of_block (cs := #[v0,v1,v2,v3,v4]) (t:=31) (fr:=(0,0)) (heap_alloc_new wc.drew _)) o1 (by omega) (by unfold maxLen;omega) (by omega) (by simp;omega) (wc.heap.size+1) (by simp) ?_;intro g cap w4 hown hgr hat qF;have B5:Blk w4 (w.heap.size+2) 31 #[.int .i64 6,.int .i64 0,.string ⟨#[]⟩,.slice al Q.length cl,Cc]:=(hgr.block (w.heap.size+2) B4.lt (fun e=>by have:=(hlv _ e.symm).1;omega)).trans B4;have c5:=(B5.cell 3).trans (show _=some (Value.slice al Q.length cl) from rfl);have z5:=B5.frozen 3));all_goals (go_wp2_with fail)
     all_goals go_roundw
     all_goals first
      | (
        refine ⟨i+1,.slice (some ⟨g,0,none⟩) (Q.length+1) cap,Cc,by omega,by simp,rfl,by simpa using B5.aS 3 (.slice (some ⟨g,0,none⟩) (Q.length+1) cap),?_,((f3.andThen Ab (fun _ _ e=>e.elim)).grown hgr (fun j hj hlt=>absurd (hlv j hj).1 (by omega))).only _⟩;have sI:=(CC.item (lo2:=wc.heap.size) (hi:=wc.heap.size) (fun y hy=>by have:=HS.out y hy;omega) Uz RZ (by simp) (by simp;omega) (fun y hy=>(hlv y hy).2) (fun y hy=>(qE y hy).2) g cap (by rw [bY];exact sU) (by rw [bY];exact hown) hgr (by simpa using hat)).N7 (X:=Only (w.heap.size+2)) ((Fr.refl _ w4).only (b:=w.heap.size+2) (o:=3) (.slice (some ⟨g,0,none⟩) (Q.length+1) cap)) (fun y hy=>by
         have e:y=w.heap.size+2:=hy;exact ⟨fun h=>by have:=HS.out y h;omega,by omega⟩)
        rw [bY] at sI;rw [<- M8.out,vH,vI];exact sI)
      | (simp [intOf]<;>omega)
   ·obtain rfl:i=l.length:=by omega
    have HME:=hd' (Ol (l:=l) (nm:=nm) (t:=t));go_wp2_with fail;go_roundw
    case rel=>exact ⟨l.length+1,lv,kv,by omega,by simp,rfl,B2,by rw [<- HME.out];exact cj,hf⟩
    case measure=>simp [intOf]
  ·obtain rfl:i=l.length+1:=by omega
   have k1:¬ (((l.length+1:Nat):Int))<=l.length:=by omega
   rw [Oj] at cj;have hpl:(aY l nm t).length=l.length+1:=by have:=sR nm l;unfold aY;simp;omega
   have HPL:=hd' hpl;clear hpl;obtain ⟨Q,hQ⟩:∃ Q,Q=aY l nm t:=⟨_,rfl⟩;rw [<- hQ] at cj HPL Uy;have HQE:=hd' hQ;clear hQ;obtain ⟨ak,ck,rfl⟩:=cj.RH;obtain ⟨al,cl,rfl⟩:=cj.Uu;simp only [cY,bY] at cj B2;have dw:=bU 6 0 ⟨#[]⟩ al ak Q.length cl Q.length ck;have fX:Fr (Only (w.heap.size+1)) wr (wr.setRow (w.heap.size+1) #[.int .i64 6,.int .i64 0,.string ⟨#[]⟩,.slice al Q.length cl,.slice ak Q.length ck]):=Fr.eE _ _ _;have fN:Fr NoB w (wr.setRow (w.heap.size+1) #[.int .i64 6,.int .i64 0,.string ⟨#[]⟩,.slice al Q.length cl,.slice ak Q.length ck]):=(JH.out wr hf).setRow (w.heap.size+1) _ (Or.inl (by omega));have Wc:=cj.N7 fX (fun y hy=>by
    have e:y=w.heap.size+1:=hy;exact ⟨fun h=>by have:=HS.out y h;omega,by omega⟩)
   obtain ⟨cs',q1,q2,q3⟩:=Wc.cells (b:=w.heap.size) (by omega);have rN:=B1.setRow #[.int .i64 6,.int .i64 0,.string ⟨#[]⟩,.slice al Q.length cl,.slice ak Q.length ck];clear HB HL HS MO cj fX Wc st;go_wp2_with (first|(refine gI rfl _ rfl (w.heap.size+2) rfl B2 rfl ?_)|(refine wpList_store_row rfl 31 _ _ rfl (w.heap.size+1) #[.int .i64 6,.int .i64 0,.string ⟨#[]⟩,.slice al Q.length cl,.slice ak Q.length ck] rfl rfl 31 zj B1 ah rfl dw ?_));refine bodyPost_ret (v:=jV 6 0 [] (.slice al Q.length cl) (.slice ak Q.length ck)) (bG rfl _ _ (w.heap.size+1) _ _ _ _ _ rfl rN) rfl ⟨_,rfl,?_,fN⟩;rw [<- HQE.out];show aG _ _ (.mk 6 0 [] (mQ Q) (mR Q)) _;simp only [aG];rw [cY] at q3;rw [bY] at q2;exact ⟨_,_,rfl,by unfold IntOk;omega,by unfold IntOk;omega,by simp,⟨by rw [cY];exact q3,by have:=HPL.out;rw [cY];unfold big;omega,Uy.out⟩,by have:=HPL.out;rw [bY];unfold big;omega,cs',q1,by rw [bY];exact q2⟩
end Go.Proofs.YtbifjamddbpcjaaGreatDoor
