/- Keys. -/
import Derived.Test.YtbifjamddbpcjaaGreatDoorLq
import Derived.Lib.ItoaLen
import Derived.Test.YtbifjamddbpcjaaGreatDoorOk
namespace Go.Proofs.YtbifjamddbpcjaaGreatDoor
set_option maxRecDepth 100000
set_option maxHeartbeats 25600000
open Go.RowKit
def lim:Nat:=8796093022208
def LD (j:Jv):Prop:=∀ {B:Nat} (S:Nat->Prop) (v:Value) (w:World) (Bb b:Nat) (acc:Bs) (n:Nat),Cx B w->B<=Bb->Bb<=w.heap.size->(∀ g,S g->g<Bb)->aG S w j v->aw n j=0->Bd w Bb b acc->acc.length+(br j).length<=lim ->
 Calls Tryz.prog 59 #[.pointer (some ⟨b,0,none⟩),v] w fun e w'=>e=.returned (.tuple #[])/\Bd w' Bb b (acc++br j)/\Wts b w w'
theorem Bd.cx {B:Nat} {w w':World} {Bb b:Nat} {l:Bs} (h:Bd w Bb b l) (hx:Cx B w) (t:Wts b w w') (hB:B<=Bb):Cx B w':=hx.fr t.fr (fun _ hk=>Nat.le_trans hB (h.UW hk).2)
theorem Bd.low {w w':World} {Bb b k:Nat} {l:Bs} (h:Bd w Bb b l) (t:Wts b w w') (hB:Bb<=w.heap.size) (hk:k<Bb):w'.heap[k]?=w.heap[k]?:=t.fr.block k (by omega) (fun e=>by have:=(h.UW e).2;omega)
theorem kr {B:Nat} (k i:Int) (t:Bs) (lv kv:Value) (w:World) (Bb b:Nat) (acc q:Bs) (hx:Cx B w) (vT:Bb<=w.heap.size) (hi:IntOk i) (xV:Bd w Bb b acc)
  (hq:(k=0/\q=im)\/(k=1/\q=eO)\/(k=2/\q=jd)\/(k=3/\q=Lib.itoa i)\/(k=4/\q=bJ t)) (hl:acc.length+q.length<=lim) :
  Calls Tryz.prog 59 #[.pointer (some ⟨b,0,none⟩),jV k i t lv kv] w fun e w'=>e=.returned (.tuple #[])/\Bd w' Bb b (acc++q)/\Wts b w w':=by
 unfold lim at hl;have f0:Fr NoB w (w.alloc (.cells #[.int .i64 k,.int .i64 i,.string ⟨t.toArray⟩,lv,kv] 31)):=(Fr.refl _ _).alloc _;have g0:=Blk.new w 31 #[.int .i64 k,.int .i64 i,.string ⟨t.toArray⟩,lv,kv];have t0:Wts b w _:=(Wts.refl b w).cT f0 xV.lt;have Fk:=xV.keep f0 (fun _ _ e=>e);have x0:=hx.eG f0;have NA:Bb<=(w.alloc (.cells #[.int .i64 k,.int .i64 i,.string ⟨t.toArray⟩,lv,kv] 31)).heap.size:=Nat.le_trans vT f0.size;have DV:Hid (∀ s:Bs,q=bJ s->s.length+2<=q.length):=hd' (fun s hs=>by
  rw [hs];have:∀ s:Bs,s.length<=(s.flatMap aK).length:=by
   intro s;induction s with
   | nil=>simp
   | cons c r ih=>
    (have h1:1<=(aK c).length:=by unfold aK;(repeat' split)<;>simp);simp only [List.flatMap_cons,List.length_append,List.length_cons];omega
  have:=this s;simp only [bJ,List.length_cons,List.length_append,List.length_nil];omega)
 clear xV;generalize hW:w.alloc (.cells #[.int .i64 k,.int .i64 i,.string ⟨t.toArray⟩,lv,kv] 31)=W at *;have HW:=hd' hW;have c0:W.cell? ⟨w.heap.size,0,none⟩=some (.int .i64 k):=(g0.cell 0).trans rfl;have c1:W.cell? ⟨w.heap.size,1,none⟩=some (.int .i64 i):=(g0.cell 1).trans rfl;have c2:W.cell? ⟨w.heap.size,2,none⟩=some (.string ⟨t.toArray⟩):=(g0.cell 2).trans rfl;clear hW;have E8:Hid (∀ u:World,Fr NoB W u->Calls Tryz.prog 62 #[.pointer (some ⟨b,0,none⟩),.string ⟨q.toArray⟩] u fun e w'=>e=.returned (.tuple #[.int .i64 q.length,.nilIface])/\Bd w' Bb b (acc++q)/\Wts b u w'):=hd' (fun u f=>jR Bb b acc q u (Fk.keep f (fun _ _ e=>e)) (by omega) (Nat.le_trans NA f.size));rcases hq with ⟨rfl,rfl⟩|⟨rfl,rfl⟩|⟨rfl,rfl⟩|⟨rfl,rfl⟩|⟨rfl,rfl⟩
 ·have HC:Hid (Calls Tryz.prog 62 #[.pointer (some ⟨b,0,none⟩),.string ⟨#[110,117,108,108]⟩] W fun e w'=>e=.returned (.tuple #[.int .i64 4,.nilIface])/\Bd w' Bb b (acc++im)/\Wts b W w'):=hd' (E8.out W (Fr.refl _ _));go_enter Tryz.func59,Tryz.ntmps59;go_wp2_with (go_at_call 62;(rw [HW.out];(with_reducible refine HC.out.mono ?_);rintro e w3 ⟨rfl,h3,t3⟩));go_end0;exact ⟨rfl,h3,t0.trans t3⟩
 ·have HC:Hid (Calls Tryz.prog 62 #[.pointer (some ⟨b,0,none⟩),.string ⟨#[102,97,108,115,101]⟩] W fun e w'=>e=.returned (.tuple #[.int .i64 5,.nilIface])/\Bd w' Bb b (acc++eO)/\Wts b W w'):=hd' (E8.out W (Fr.refl _ _));go_enter Tryz.func59,Tryz.ntmps59;go_wp2_with (go_at_call 62;(rw [HW.out];(with_reducible refine HC.out.mono ?_);rintro e w3 ⟨rfl,h3,t3⟩));go_end0;exact ⟨rfl,h3,t0.trans t3⟩
 ·have HC:Hid (Calls Tryz.prog 62 #[.pointer (some ⟨b,0,none⟩),.string ⟨#[116,114,117,101]⟩] W fun e w'=>e=.returned (.tuple #[.int .i64 4,.nilIface])/\Bd w' Bb b (acc++jd)/\Wts b W w'):=hd' (E8.out W (Fr.refl _ _));go_enter Tryz.func59,Tryz.ntmps59;go_wp2_with (go_at_call 62;(rw [HW.out];(with_reducible refine HC.out.mono ?_);rintro e w3 ⟨rfl,h3,t3⟩));go_end0;exact ⟨rfl,h3,t0.trans t3⟩
 ·have HI:=hd' (om i hi.1 hi.2 W x0);go_enter Tryz.func59,Tryz.ntmps59;go_wp2_with (first|(go_at_call 100;(rw [HW.out];(with_reducible refine HI.out.mono ?_);rintro e w2 ⟨rfl,f2⟩))|(go_at_call 62;((with_reducible refine (E8.out _ f2).mono ?_);rintro e w3 ⟨rfl,h3,t3⟩)));go_end0;exact ⟨rfl,h3,(t0.cT f2 Fk.lt).trans t3⟩
 ·have HC:=hd' (sj Bb b acc t W Fk (by have:=DV.out t rfl;omega) NA);go_enter Tryz.func59,Tryz.ntmps59;go_wp2_with (go_at_call 101;(rw [HW.out];(with_reducible refine HC.out.mono ?_);rintro e w3 ⟨rfl,h3,t3⟩));go_end0;exact ⟨rfl,h3,t0.trans t3⟩
theorem CY (s:Bs):s.length+2<=(bJ s).length:=by
 have:∀ s:Bs,s.length<=(s.flatMap aK).length:=by
  intro s;induction s with
  | nil=>simp
  | cons c r ih=>
   have h1:1<=(aK c).length:=by
    unfold aK;(repeat' split)<;>simp
   simp only [List.flatMap_cons,List.length_append,List.length_cons];omega
 have:=this s;simp only [bJ,List.length_cons,List.length_append,List.length_nil];omega
theorem vU {B:Nat} (obj:Bool) (k:Int) (hk:k=if obj then 6 else 5) (S:Nat->Prop) (i:Int) (t:Bs) (l:List Jv) (ks:List Bs) (la:Option Addr) (lc:Nat) (ka:Option Addr) (kc:Nat) (w:World) (Bb b:Nat) (acc:Bs) (hx:Cx B w) (SA:B<=Bb) (vT:Bb<=w.heap.size) (hS:∀ g,S g->g<Bb)
  (qE:aT S w (.slice ka ks.length kc) ks.length (ks.map sV)) (cs:List Value) (hcs:aq S w l cs) (dd:aT S w (.slice la l.length lc) l.length cs) (ua:obj=true->ks.length=l.length/\ks.Nodup) (xV:Bd w Bb b acc)
  (its:List Bs) (K7:its=dr obj ks (cg l)) (hlen:acc.length+(aC its).length+2<=lim) (tX:∀ x∈l,LD x) (gm:∀ x∈l,∃ n,aw n x=0) :
  Calls Tryz.prog 59 #[.pointer (some ⟨b,0,none⟩),jV k i t (.slice la l.length lc) (.slice ka ks.length kc)] w fun e w'=>e=.returned (.tuple #[])/\Bd w' Bb b (acc++((if obj then 123 else 91)::(aC its++[if obj then 125 else 93])))/\Wts b w w':=by
 have Aa:its.length=l.length:=by rw [K7,CZ,iT]
 have I9:=GV its;unfold lim at hlen;have f0:Fr NoB w (w.alloc (.cells #[.int .i64 k,.int .i64 i,.string ⟨t.toArray⟩,.slice la l.length lc,.slice ka ks.length kc] 31)):=(Fr.refl _ _).alloc _;have g0:=Blk.new w 31 #[.int .i64 k,.int .i64 i,.string ⟨t.toArray⟩,.slice la l.length lc,.slice ka ks.length kc];have t0:Wts b w _:=(Wts.refl b w).cT f0 xV.lt;have Fk:=xV.keep f0 (fun _ _ e=>e);have OM:=xV.far f0 (Nat.le_refl _);have NA:Bb<=(w.alloc (.cells #[.int .i64 k,.int .i64 i,.string ⟨t.toArray⟩,.slice la l.length lc,.slice ka ks.length kc] 31)).heap.size:=Nat.le_trans vT f0.size;generalize hW:w.alloc (.cells #[.int .i64 k,.int .i64 i,.string ⟨t.toArray⟩,.slice la l.length lc,.slice ka ks.length kc] 31)=W at *;have HW:=hd' hW;have c0:W.cell? ⟨w.heap.size,0,none⟩=some (.int .i64 k):=(g0.cell 0).trans rfl;clear hW
 -- the opening bracket
 have HB:Hid (∀ x:Int,x=(if obj then 123 else 91)->Calls Tryz.prog 102 #[.pointer (some ⟨b,0,none⟩),.int .u8 x] W fun e w1=>e=.returned .nilIface/\Hid (Bd w1 Bb b (acc++[if obj then 123 else 91])/\Wts b W w1)/\Blk w1 w.heap.size 31 #[.int .i64 k,.int .i64 i,.string ⟨t.toArray⟩,.slice la l.length lc,.slice ka ks.length kc]):=hd' (fun x Qd=>by
  subst Qd;have h:=cJ Bb b acc (if obj then 123 else 91) W Fk (by omega) NA;have e1:((if obj then (123:UInt8) else 91).toNat:Int)=if obj then 123 else 91:=by cases obj<;>rfl
  rw [e1] at h;exact h.mono (fun e w1 ⟨h1,h2,h3⟩=>⟨h1,hd' ⟨h2,h3⟩,h3.fr.blk g0 OM⟩))
 have HO:Hid (∀ w1,Bd w1 Bb b (acc++[if obj then 123 else 91])/\Wts b W w1->Calls Tryz.prog 103 #[jV k i t (.slice la l.length lc) (.slice ka ks.length kc)] w1 fun e w'=>∃ g,e=.returned (.slice (some ⟨g,0,none⟩) l.length l.length)/\Hid (w1.heap.size<=g/\Blk w' g 3 ((aO (k==6) ks l.length).map iV).toArray/\Fr NoB w1 w')):=hd' (fun w1 ⟨h1,h2⟩=>by
  refine (FH S k i t l.length ks la lc _ w1 (fun g hg => ?_) (qE.fr (fun g hg => ?_)) (by unfold big;omega) (fun e=>ua (by cases obj<;>simp_all))).mono (fun e w' ⟨g,h3,h4,h5,h6⟩=>⟨g,h3,hd' ⟨h4,h5,h6⟩⟩)
  ·have:=hS g hg;have:=h2.fr.size;omega
  ·rw [Fk.low h2 NA (hS g hg)];exact f0.block g (by have:=hS g hg;omega) (fun e=>e))
 have key:Hid (∀ w1 g w2,Bd w1 Bb b (acc++[if obj then 123 else 91])/\Wts b W w1->w1.heap.size<=g/\Blk w2 g 3 ((aO (k==6) ks l.length).map iV).toArray/\Fr NoB w1 w2 ->
   Bd w2 Bb b (acc++[if obj then 123 else 91])/\Wts b w w2/\∀ u,Wts b w2 u->u.cell? ⟨w.heap.size,0,none⟩=some (.int .i64 k)/\u.cell? ⟨w.heap.size,3,none⟩=some (.slice la l.length lc)/\u.cell? ⟨w.heap.size,4,none⟩=some (.slice ka ks.length kc) /\
    Blk u g 3 ((aO obj ks l.length).map iV).toArray/\(∀ x,x<Bb->u.heap[x]?=w.heap[x]?)/\Cx B u/\Bb<=u.heap.size):=hd' (fun w1 g w2 ⟨h1,h2⟩ ⟨h3,h4,h5⟩=>by
  have ek:(k==6)=obj:=by cases obj<;>simp [hk]
  rw [ek] at h4;have nvb:¬ BdS b w1 w.heap.size:=h2.not g0.lt OM;have abC:¬ BdS b w2 w.heap.size:=fun e=>nvb (e.same (h5.block b h1.lt (fun e=>e)));have ng:=h1.far h5 h3;have b2:=h1.keep h5 (fun _ _ e=>e);have t2:Wts b w w2:=(t0.trans h2).cT h5 h1.lt;refine ⟨b2,t2,fun u hu => ?_⟩;have gu:=hu.fr.blk (h5.blk (h2.fr.blk g0 OM) (fun e=>e)) abC;have MT:Bb<=w2.heap.size:=Nat.le_trans vT t2.fr.size;refine ⟨(gu.cell 0).trans rfl,(gu.cell 3).trans rfl,(gu.cell 4).trans rfl,hu.fr.blk h4 ng,fun x hx => ?_,b2.cx (xV.cx hx t2 SA) hu SA,Nat.le_trans MT hu.fr.size⟩;rw [b2.low hu MT hx,xV.low t2 vT hx])
 have ai9:=hd' xV;clear xV Fk OM f0 t0;cases obj with
 | false=>
  simp only [Bool.false_eq_true,if_false] at *;subst hk;have HIT:Hid (∀ m (h:m<its.length),∃ p,p<l.length/\(aO false ks l.length)[m]?=some p/\its[m]=kh false ks (cg l) p):=hd' (fun m h=>by
   have h2:m<(aO false ks l.length).length:=by rw [bW];omega
   refine ⟨(aO false ks l.length)[m],mw (List.getElem_mem h2),List.getElem?_eq_getElem h2,?_⟩;subst K7;simp only [dr,List.getElem_map,iT])
  have YY:=hd' ua;have YJ:=hd' qE;have HLV:=hd' (And.intro hcs dd);have BB:=hd' tX;have SB:=hd' gm;clear K7 ua qE hcs dd tX gm;go_enter Tryz.func59,Tryz.ntmps59;go_wp2_with (first|(go_at_call 102;(rw [HW.out];(refine (HB.out _ (by first|rfl|decide)).mono ?_);rintro e w1 ⟨rfl,H1,G1⟩))|(refine gI rfl _ rfl w.heap.size rfl G1 rfl ?_)|(go_at_call 103;((with_reducible refine (HO.out _ H1.out).mono ?_);rintro e w2 ⟨g,rfl,H2⟩)));have Ao:=hd' (key.out w1 g w2 H1.out H2.out);clear key HO HB H1 H2 G1 g0 c0 HW;go_loopw [19] (fun v wr=>∃ m:Nat,m<=l.length/\v=.int .i64 m/\Hid (Bd wr Bb b ((acc++[91])++aC (its.take m)))/\Wts b w2 wr) (fun v _=>l.length - (intOf v).toNat)
  case atStart=>exact ⟨0,Nat.zero_le _,rfl,hd' (by simpa [aC] using Ao.out.1),Wts.refl _ _⟩
  case round=>
   obtain ⟨m,hm,rfl,sq,ht⟩:=hrel;by_cases hlt:m<l.length
   ·obtain ⟨p,hp,ho,hit⟩:=HIT.out m (by omega);obtain ⟨_,_,_,dX,_,_,SC⟩:=Ao.out.2.2 wr ht;(have hr:wr.cell? ⟨g,m,none⟩=some (.int .i64 p):=by rw [dX.cell];simp [ho]);have OO:=kR its m (by omega);have hle:=oI its (m+1);rw [OO,hit] at hle;rw [hit] at OO;clear dX ho hit;simp only [List.length_append] at hle;have HN:Hid (∀ q,q=(acc++[91])++aC (its.take m)++((if 0<m then [44] else [])++kh false ks (cg l) p)->q=(acc++[91])++aC (its.take (m+1))):=hd' (fun q hq=>by rw [OO,hq,List.append_assoc (acc++[91])]);(have hA:((acc++[91])++aC (its.take m)).length=acc.length+1+(aC (its.take m)).length:=by simp only [List.length_append,List.length_cons,List.length_nil]);generalize (acc++[91])++aC (its.take m)=A at sq HN hA;clear OO;go_upto_if 25 with fail;go_cut [] (fun wx=>Hid (Bd wx Bb b (A++(if 0<m then [44] else [])))/\Wts b wr wx)
    case first=>
     by_cases rI:m=0
     ·subst rI;go_wp2_with fail;go_meet;exact ⟨hd' (by simpa using sq.out),Wts.refl _ _⟩
     ·(have qR:0<m:=by omega);(have hmi:(0:Int)<(m:Int):=by omega);rw [if_pos qR] at hle;simp only [List.length_cons,List.length_nil] at hle;have HC:Hid (Calls Tryz.prog 102 #[.pointer (some ⟨b,0,none⟩),.int .u8 44] wr fun e w'=>e=.returned .nilIface/\Bd w' Bb b (A++[44])/\Wts b wr w'):=hd' (cJ Bb b A 44 wr sq.out (by omega) SC);clear hle;go_wp2_with (go_at_call 102;((with_reducible refine HC.out.mono ?_);rintro e w3 ⟨rfl,h3,t3⟩));go_meet;exact ⟨hd' (by rw [if_pos qR];exact h3),t3⟩
    case rest=>
     obtain ⟨og,t1⟩:=hcut;have Aw:=ht.trans t1;have qc:Hid (∀ q,q=A++(if 0<m then [44] else [])++kh false ks (cg l) p->q=(acc++[91])++aC (its.take (m+1))):=hd' (fun q hq=>HN.out q (by rw [hq,List.append_assoc]));(have WB:(A++(if 0<m then [44] else [])).length=acc.length+1+(aC (its.take m)).length+(if 0<m then [44] else []:Bs).length:=by simp only [List.length_append];omega);generalize A++(if 0<m then [44] else [])=A1 at og qc WB;clear sq HN hA hr;(have CD:kh false ks (cg l) p=br l[p]:=by rw [kh,mF l p hp];rfl);rw [CD] at hle qc;have mN:l[p]∈l:=List.getElem_mem hp;obtain ⟨hcs,dd⟩:=HLV.out;rcases dd with ⟨h0,_⟩|⟨gl,ol,cl,he,Fl,hcell⟩
     ·omega
     ·simp only [Value.slice.injEq,true_and] at he;obtain ⟨rfl,rfl⟩:=he;obtain ⟨v0,v1,v2,v3,v4,a0,a1,a2,a3,a4,hat⟩:=aq.get l cs p hp hcs;obtain ⟨nn,MM⟩:=SB.out _ mN;have WC:LD l[p]:=BB.out _ mN;generalize l[p]=x at *;have MU:Hid (∀ u,Wts b w2 u->u.cell? ⟨w.heap.size,0,none⟩=some (.int .i64 5)/\u.cell? ⟨w.heap.size,3,none⟩=some (.slice (some ⟨gl,ol,none⟩) l.length lc)/\u.cell? ⟨w.heap.size,4,none⟩=some (.slice ka ks.length kc) /\
        u.cell? ⟨gl,ol+p*5,none⟩=some v0/\u.cell? ⟨gl,ol+p*5+1,none⟩=some v1/\u.cell? ⟨gl,ol+p*5+2,none⟩=some v2/\u.cell? ⟨gl,ol+p*5+3,none⟩=some v3/\u.cell? ⟨gl,ol+p*5+4,none⟩=some v4/\Bb<=u.heap.size):=hd' (fun u hu=>by
       obtain ⟨k0,k3,k4,_,xW,_,kB⟩:=Ao.out.2.2 u hu;have cc:∀ (q:Nat) z,cs[q]?=some z->u.cell? ⟨gl,ol+q,none⟩=some z:=fun q z hz=>(World.cell?_of_block (w:=w) (a:=⟨gl,ol+q,none⟩) (xW gl (hS gl Fl))).trans (hcell q z hz);exact ⟨k0,k3,k4,cc _ _ a0,cc _ _ a1,cc _ _ a2,cc _ _ a3,cc _ _ a4,kB⟩)
      have WD:Hid (∀ u A2,Wts b w2 u->Bd u Bb b A2->A2.length+(br x).length<=lim->Calls Tryz.prog 59 #[.pointer (some ⟨b,0,none⟩),.agg #[v0,v1,v2,v3,v4]] u fun e w'=>e=.returned (.tuple #[])/\Bd w' Bb b (A2++br x)/\Wts b u w'):=hd' (fun u A2 hu hb JC=>by
       obtain ⟨_,_,_,_,xW,kx,kB⟩:=Ao.out.2.2 u hu;exact WC S _ u Bb b A2 nn kx SA kB hS (aG.fr (fun g hg=>xW g (hS g hg)) x _ hat) MM hb JC)
      clear WC hat MM hcell a0 a1 a2 a3 a4 hcs;obtain ⟨k0,k3,k4,d0,d1,d2,d3,d4,kB⟩:=MU.out _ Aw;have HC:=hd' (WD.out _ _ Aw og.out (by unfold lim;omega));have HR:=hd' (qc.out _ rfl);clear hle WB MU WD og qc CD;generalize br x=X at *;go_wp2_with (go_at_call 59;((with_reducible refine HC.out.mono ?_);rintro e w3 ⟨rfl,h3,t3⟩));go_roundw
      case rel=>exact ⟨m+1,by omega,by simp,hd' (by rw [<- HR.out];exact h3),Aw.trans t3⟩
      case measure=>simp [intOf];omega
   ·obtain rfl:m=l.length:=by omega
    have SC:=(Ao.out.2.2 wr ht).2.2.2.2.2.2;have etk:its.take l.length=its:=List.take_of_length_le (by omega);rw [etk] at sq;have HE:Hid (∀ x:Int,x=93->Calls Tryz.prog 102 #[.pointer (some ⟨b,0,none⟩),.int .u8 x] wr fun e w'=>e=.returned .nilIface/\Bd w' Bb b ((acc++[91])++aC its++[93])/\Wts b wr w'):=hd' (fun x hx=>by subst hx;exact cJ Bb b _ 93 wr sq.out (by simp only [List.length_append,List.length_cons,List.length_nil];omega) SC);clear sq;go_wp2_with (go_at_call 102;((refine (HE.out _ (by first|rfl|decide)).mono ?_);rintro e w3 ⟨rfl,h3,t3⟩));go_end0;exact ⟨rfl,by simpa using h3,(Ao.out.2.1.trans ht).trans t3⟩
 | true=>
  simp only [if_true] at *;subst hk;have HIT:Hid (∀ m (h:m<its.length),∃ p,p<l.length/\(aO true ks l.length)[m]?=some p/\its[m]=kh true ks (cg l) p):=hd' (fun m h=>by
   have h2:m<(aO true ks l.length).length:=by rw [bW];omega
   refine ⟨(aO true ks l.length)[m],mw (List.getElem_mem h2),List.getElem?_eq_getElem h2,?_⟩;subst K7;simp only [dr,List.getElem_map,iT])
  have YY:=hd' ua;have YJ:=hd' qE;have HLV:=hd' (And.intro hcs dd);have BB:=hd' tX;have SB:=hd' gm;clear K7 ua qE hcs dd tX gm;go_enter Tryz.func59,Tryz.ntmps59;go_wp2_with (first|(go_at_call 102;(rw [HW.out];(refine (HB.out _ (by first|rfl|decide)).mono ?_);rintro e w1 ⟨rfl,H1,G1⟩))|(refine gI rfl _ rfl w.heap.size rfl G1 rfl ?_)|(go_at_call 103;((with_reducible refine (HO.out _ H1.out).mono ?_);rintro e w2 ⟨g,rfl,H2⟩)));have Ao:=hd' (key.out w1 g w2 H1.out H2.out);clear key HO HB H1 H2 G1 g0 c0 HW;go_loopw [19] (fun v wr=>∃ m:Nat,m<=l.length/\v=.int .i64 m/\Hid (Bd wr Bb b ((acc++[123])++aC (its.take m)))/\Wts b w2 wr) (fun v _=>l.length - (intOf v).toNat)
  case atStart=>exact ⟨0,Nat.zero_le _,rfl,hd' (by simpa [aC] using Ao.out.1),Wts.refl _ _⟩
  case round=>
   obtain ⟨m,hm,rfl,sq,ht⟩:=hrel;by_cases hlt:m<l.length
   ·obtain ⟨p,hp,ho,hit⟩:=HIT.out m (by omega);obtain ⟨_,_,_,dX,_,_,SC⟩:=Ao.out.2.2 wr ht;(have hr:wr.cell? ⟨g,m,none⟩=some (.int .i64 p):=by rw [dX.cell];simp [ho]);have OO:=kR its m (by omega);have hle:=oI its (m+1);rw [OO,hit] at hle;rw [hit] at OO;clear dX ho hit;simp only [List.length_append] at hle;have HN:Hid (∀ q,q=(acc++[123])++aC (its.take m)++((if 0<m then [44] else [])++kh true ks (cg l) p)->q=(acc++[123])++aC (its.take (m+1))):=hd' (fun q hq=>by rw [OO,hq,List.append_assoc (acc++[123])]);(have hA:((acc++[123])++aC (its.take m)).length=acc.length+1+(aC (its.take m)).length:=by simp only [List.length_append,List.length_cons,List.length_nil]);generalize (acc++[123])++aC (its.take m)=A at sq HN hA;clear OO;go_upto_if 25 with fail;go_cut [] (fun wx=>Hid (Bd wx Bb b (A++(if 0<m then [44] else [])))/\Wts b wr wx)
    case first=>
     by_cases rI:m=0
     ·subst rI;go_wp2_with fail;go_meet;exact ⟨hd' (by simpa using sq.out),Wts.refl _ _⟩
     ·(have qR:0<m:=by omega);(have hmi:(0:Int)<(m:Int):=by omega);rw [if_pos qR] at hle;simp only [List.length_cons,List.length_nil] at hle;have HC:Hid (Calls Tryz.prog 102 #[.pointer (some ⟨b,0,none⟩),.int .u8 44] wr fun e w'=>e=.returned .nilIface/\Bd w' Bb b (A++[44])/\Wts b wr w'):=hd' (cJ Bb b A 44 wr sq.out (by omega) SC);clear hle;go_wp2_with (go_at_call 102;((with_reducible refine HC.out.mono ?_);rintro e w3 ⟨rfl,h3,t3⟩));go_meet;exact ⟨hd' (by rw [if_pos qR];exact h3),t3⟩
    case rest=>
     obtain ⟨og,t1⟩:=hcut;have Aw:=ht.trans t1;have qc:Hid (∀ q,q=A++(if 0<m then [44] else [])++kh true ks (cg l) p->q=(acc++[123])++aC (its.take (m+1))):=hd' (fun q hq=>HN.out q (by rw [hq,List.append_assoc]));(have WB:(A++(if 0<m then [44] else [])).length=acc.length+1+(aC (its.take m)).length+(if 0<m then [44] else []:Bs).length:=by simp only [List.length_append];omega);generalize A++(if 0<m then [44] else [])=A1 at og qc WB;clear sq HN hA hr;(have CD:kh true ks (cg l) p=(bJ (af ks p)++[58])++br l[p]:=by rw [kh,mF l p hp];rfl);rw [CD] at hle qc;have mN:l[p]∈l:=List.getElem_mem hp;obtain ⟨hcs,dd⟩:=HLV.out;rcases dd with ⟨h0,_⟩|⟨gl,ol,cl,he,Fl,hcell⟩
     ·omega
     ·simp only [Value.slice.injEq,true_and] at he;obtain ⟨rfl,rfl⟩:=he;obtain ⟨v0,v1,v2,v3,v4,a0,a1,a2,a3,a4,hat⟩:=aq.get l cs p hp hcs;obtain ⟨nn,MM⟩:=SB.out _ mN;have WC:LD l[p]:=BB.out _ mN;generalize l[p]=x at *;have MU:Hid (∀ u,Wts b w2 u->u.cell? ⟨w.heap.size,0,none⟩=some (.int .i64 6)/\u.cell? ⟨w.heap.size,3,none⟩=some (.slice (some ⟨gl,ol,none⟩) l.length lc)/\u.cell? ⟨w.heap.size,4,none⟩=some (.slice ka ks.length kc) /\
        u.cell? ⟨gl,ol+p*5,none⟩=some v0/\u.cell? ⟨gl,ol+p*5+1,none⟩=some v1/\u.cell? ⟨gl,ol+p*5+2,none⟩=some v2/\u.cell? ⟨gl,ol+p*5+3,none⟩=some v3/\u.cell? ⟨gl,ol+p*5+4,none⟩=some v4/\Bb<=u.heap.size):=hd' (fun u hu=>by
       obtain ⟨k0,k3,k4,_,xW,_,kB⟩:=Ao.out.2.2 u hu;have cc:∀ (q:Nat) z,cs[q]?=some z->u.cell? ⟨gl,ol+q,none⟩=some z:=fun q z hz=>(World.cell?_of_block (w:=w) (a:=⟨gl,ol+q,none⟩) (xW gl (hS gl Fl))).trans (hcell q z hz);exact ⟨k0,k3,k4,cc _ _ a0,cc _ _ a1,cc _ _ a2,cc _ _ a3,cc _ _ a4,kB⟩)
      have WD:Hid (∀ u A2,Wts b w2 u->Bd u Bb b A2->A2.length+(br x).length<=lim->Calls Tryz.prog 59 #[.pointer (some ⟨b,0,none⟩),.agg #[v0,v1,v2,v3,v4]] u fun e w'=>e=.returned (.tuple #[])/\Bd w' Bb b (A2++br x)/\Wts b u w'):=hd' (fun u A2 hu hb JC=>by
       obtain ⟨_,_,_,_,xW,kx,kB⟩:=Ao.out.2.2 u hu;exact WC S _ u Bb b A2 nn kx SA kB hS (aG.fr (fun g hg=>xW g (hS g hg)) x _ hat) MM hb JC)
      clear WC hat MM hcell a0 a1 a2 a3 a4 hcs;obtain ⟨k0,k3,k4,d0,d1,d2,d3,d4,kB⟩:=MU.out _ Aw;obtain ⟨jU,_⟩:=YY.out trivial;rcases YJ.out with ⟨h0,_⟩|⟨gk,ok,ck,he,hgk,yz⟩
      ·omega
      ·simp only [Value.slice.injEq,true_and] at he;obtain ⟨rfl,rfl⟩:=he;(have GW:p<ks.length:=by omega);clear jU;(have eky:af ks p=ks[p]:=by simp [af,List.getD,GW]);have YZ:Hid (∀ u,Wts b w2 u->u.cell? ⟨gk,ok+p,none⟩=some (sV (af ks p))):=hd' (fun u hu=>by
        obtain ⟨_,_,_,_,xW,_,_⟩:=Ao.out.2.2 u hu;exact (World.cell?_of_block (w:=w) (a:=⟨gk,ok+p,none⟩) (xW gk (hS gk hgk))).trans (yz p _ (by rw [eky,List.getElem?_map,List.getElem?_eq_getElem GW];rfl)))
       have dk:=YZ.out _ Aw;have tZ:=CY (af ks p);simp only [List.length_append,List.length_cons,List.length_nil] at hle;have HQ:=hd' (sj Bb b A1 (af ks p) _ og.out (by omega) kB);have abG:Hid (∀ u,Bd u Bb b (A1++bJ (af ks p))->Bb<=u.heap.size->Calls Tryz.prog 102 #[.pointer (some ⟨b,0,none⟩),.int .u8 58] u fun e w'=>e=.returned .nilIface/\Bd w' Bb b (A1++bJ (af ks p)++[58])/\Wts b u w'):=hd' (fun u hb hB=>cJ Bb b _ 58 u hb (by simp only [List.length_append];omega) hB);have abH:Hid (∀ u,Wts b w2 u->Bd u Bb b (A1++bJ (af ks p)++[58])->Calls Tryz.prog 59 #[.pointer (some ⟨b,0,none⟩),.agg #[v0,v1,v2,v3,v4]] u fun e w'=>e=.returned (.tuple #[])/\Bd w' Bb b (A1++bJ (af ks p)++[58]++br x)/\Wts b u w'):=hd' (fun u hu hb=>WD.out u _ hu hb (by unfold lim;simp only [List.length_append,List.length_cons,List.length_nil];omega));have HR:Hid (A1++bJ (af ks p)++[58]++br x=(acc++[123])++aC (its.take (m+1))):=hd' (qc.out _ (by simp only [List.append_assoc]));clear hle WB WD og qc CD tZ yz eky YZ;generalize br x=X at *;generalize af ks p=ajb at *;go_wp2_with (first|(go_at_call 101;((with_reducible refine HQ.out.mono ?_);rintro e w3 ⟨rfl,h3,t3⟩;obtain ⟨k0,k3,k4,d0,d1,d2,d3,d4,kB⟩:=MU.out _ (Aw.trans t3);have H3:=hd' h3;clear h3))|(go_at_call 102;((with_reducible refine (abG.out _ H3.out kB).mono ?_);rintro e w4 ⟨rfl,h4,t4⟩;obtain ⟨k0,k3,k4,d0,d1,d2,d3,d4,kB⟩:=MU.out _ ((Aw.trans t3).trans t4);have H4:=hd' h4;clear h4))|(go_at_call 59;((with_reducible refine (abH.out _ ((Aw.trans t3).trans t4) H4.out).mono ?_);rintro e w5 ⟨rfl,h5,t5⟩)));go_roundw
       case rel=>exact ⟨m+1,by omega,by simp,hd' (by rw [<- HR.out];exact h5),((Aw.trans t3).trans t4).trans t5⟩
       case measure=>simp [intOf];omega
   ·obtain rfl:m=l.length:=by omega
    have SC:=(Ao.out.2.2 wr ht).2.2.2.2.2.2;have etk:its.take l.length=its:=List.take_of_length_le (by omega);rw [etk] at sq;have HE:Hid (∀ x:Int,x=125->Calls Tryz.prog 102 #[.pointer (some ⟨b,0,none⟩),.int .u8 x] wr fun e w'=>e=.returned .nilIface/\Bd w' Bb b ((acc++[123])++aC its++[125])/\Wts b wr w'):=hd' (fun x hx=>by subst hx;exact cJ Bb b _ 125 wr sq.out (by simp only [List.length_append,List.length_cons,List.length_nil];omega) SC);clear sq;go_wp2_with (go_at_call 102;((refine (HE.out _ (by first|rfl|decide)).mono ?_);rintro e w3 ⟨rfl,h3,t3⟩));go_end0;exact ⟨rfl,by simpa using h3,(Ao.out.2.1.trans ht).trans t3⟩
mutual
theorem K8:∀ j:Jv,LD j
 | .mk k i t l ks=>by
  intro S v w Bb b acc n hx SA vT hS hat yz xV hlen;simp only [aG] at hat;obtain ⟨lv,kv,rfl,hk,hi,ht,gH,hl,cs,hcs,dd⟩:=hat;obtain ⟨D2,abI⟩:=mo n k i t l ks yz;obtain ⟨h0,h7,h6⟩:=jZ D2;have tX:=Ez l;have gm:∀ x∈l,∃ n,aw n x=0:=fun x hx=>⟨n+1,iy _ _ abI x hx⟩;obtain ⟨la,lc,rfl⟩:∃ a c,lv=.slice a l.length c:=by
   rcases dd with ⟨h0,a,c,rfl⟩|⟨g,o,c,rfl,hg,hc⟩
   ·exact ⟨a,c,by rw [h0]⟩
   ·exact ⟨_,c,rfl⟩
  obtain ⟨ka,kc,rfl⟩:∃ a c,kv=.slice a ks.length c:=by
   rcases gH.1 with ⟨h0,a,c,rfl⟩|⟨g,o,c,rfl,hg,hc⟩
   ·exact ⟨a,c,by rw [h0]⟩
   ·exact ⟨_,c,rfl⟩
  have wS:k=0\/k=1\/k=2\/k=3\/k=4\/k=5\/k=6:=by omega
  rcases wS with rfl|rfl|rfl|rfl|rfl|rfl|rfl
  ·exact kr 0 i t _ _ w Bb b acc _ hx vT hi xV (Or.inl ⟨rfl,by rw [br];rfl⟩) hlen
  ·exact kr 1 i t _ _ w Bb b acc _ hx vT hi xV (Or.inr (Or.inl ⟨rfl,by rw [br];rfl⟩)) hlen
  ·exact kr 2 i t _ _ w Bb b acc _ hx vT hi xV (Or.inr (Or.inr (Or.inl ⟨rfl,by rw [br];rfl⟩))) hlen
  ·exact kr 3 i t _ _ w Bb b acc _ hx vT hi xV (Or.inr (Or.inr (Or.inr (Or.inl ⟨rfl,by rw [br];rfl⟩)))) hlen
  ·exact kr 4 i t _ _ w Bb b acc _ hx vT hi xV (Or.inr (Or.inr (Or.inr (Or.inr ⟨rfl,by rw [br];rfl⟩)))) hlen
  ·have e:br (.mk 5 i t l ks)=91::(aC (dr false ks (cg l))++[93]):=by rw [br];rfl
   rw [e] at hlen ⊢;exact vU false 5 rfl S i t l ks la lc ka kc w Bb b acc hx SA vT hS gH.1 cs hcs dd (fun h=>by cases h) xV _ rfl (by simp only [List.length_cons,List.length_append,List.length_nil] at hlen;omega) tX gm
  ·have e:br (.mk 6 i t l ks)=123::(aC (dr true ks (cg l))++[125]):=by rw [br];rfl
   rw [e] at hlen ⊢;exact vU true 6 rfl S i t l ks la lc ka kc w Bb b acc hx SA vT hS gH.1 cs hcs dd (fun _=>h6 rfl) xV _ rfl (by simp only [List.length_cons,List.length_append,List.length_nil] at hlen;omega) tX gm
theorem Ez:∀ (l:List Jv),∀ x∈l,LD x
 | [],x,hx=>absurd hx (by simp)
 | j::r,x,hx=>by
  cases hx with
  | head=>exact K8 j
  | tail _ h=>exact Ez r x h
end
theorem K9 {B:Nat} (S:Nat->Prop) (j:Jv) (v:Value) (w:World) (hx:Cx B w) (hS:∀ g,S g->g<w.heap.size) (hat:aG S w j v) (eK:Jl j) (hl:aw 0 j=0->(br j).length<=lim) :
  Calls Tryz.prog 29 #[v] w fun e w'=>e=.returned (.tuple #[sV (cu j).1,.int .i64 ((cu j).2:Int)])/\Fr NoB w w':=by
 obtain ⟨v0,v1,v2,v3,v4,rfl,h1c⟩:∃ v0 v1 v2 v3 v4,v=.agg #[v0,v1,v2,v3,v4]/\∀ u∈[v0,v1,v2,v3,v4],u.oneCell'=true:=by
  cases j with
  | mk k i t l ks=>
   have h0:=hat;simp only [aG] at hat;obtain ⟨lv,kv,rfl,_⟩:=hat;exact ⟨_,_,_,_,_,rfl,h0.one⟩
 have dw:=dp h1c;have f0:Fr NoB w (w.alloc (.cells #[v0,v1,v2,v3,v4] 31)):=(Fr.refl _ _).alloc _;have g0:=Blk.new w 31 #[v0,v1,v2,v3,v4];generalize hW:w.alloc (.cells #[v0,v1,v2,v3,v4] 31)=W at f0 g0;have HW:=hd' hW;clear hW;have HC:=hd' (pB S j _ W (hx.eG f0) (fun g hg=>Nat.lt_of_lt_of_le (hS g hg) f0.size) (aG.fr (fun g hg=>f0.block g (hS g hg) (fun e=>e)) j _ hat) eK);by_cases hz:aw 0 j=0
 ·have dd:=hl hz;rw [hz] at HC;have et:cu j=if 65536<(br j).length then ([],92) else (br j,0):=by unfold cu;rw [if_pos hz]
  rw [et]
  -- the builder's world
  have HL:Hid (∀ w2,Fr NoB W w2->Calls Tryz.prog 59 #[.pointer (some ⟨w2.heap.size,0,none⟩),.agg #[v0,v1,v2,v3,v4]] (w2.alloc (.cells #[.pointer none,.slice none 0 0] 93)) fun e w'=>e=.returned (.tuple #[])/\Hid (Bd w' w2.heap.size w2.heap.size (br j))/\Fr NoB w2 w'):=hd' (fun w2 f2=>by
   have fa:Fr NoB w2 (w2.alloc (.cells #[.pointer none,.slice none 0 0] 93)):=(Fr.refl _ _).alloc _;have f3:=(f0.trans f2).trans fa;have hsz:w.heap.size<=w2.heap.size:=(f0.trans f2).size;refine (K8 j S _ _ w2.heap.size w2.heap.size [] 0 (hx.eG f3) (Nat.le_trans hx.le hsz) fa.size (fun g hg=>Nat.lt_of_lt_of_le (hS g hg) hsz) (aG.fr (fun g hg=>f3.block g (hS g hg) (fun e=>e)) j _ hat) hz (Bd.new w2) (by simpa using dd)).mono ?_;rintro e w' ⟨rfl,hb,ht⟩;exact ⟨rfl,hd' (by simpa using hb),fa.andThen ht.fr (fun k hk e=>by have:=((Bd.new w2).UW e).2;omega)⟩)
  generalize br j=T at *;clear hat eK hl hz et;by_cases hb:65536<T.length
  ·have hbi:(65536:Int)<(T.length:Int):=by omega
   rw [if_pos hb];go_enter Tryz.func29,Tryz.ntmps29;go_wp2_with (first|(rw [HW.out];refine gI rfl _ rfl w.heap.size rfl g0 rfl ?_)|(go_at_call 41;((with_reducible refine HC.out.mono ?_);rintro e w2 ⟨rfl,f2⟩;have g2:=(f2.blk g0 (fun e=>e)).alloc (.cells #[.pointer none,.slice none 0 0] 93)))|(refine gI rfl _ rfl w.heap.size rfl g2 rfl ?_)|(go_at_call 59;((with_reducible refine (HL.out _ f2).mono ?_);rintro e w3 ⟨rfl,H3,f3⟩))|(go_at_call 60;((with_reducible refine (zC _ _ T _ H3.out).mono ?_);rintro e w4 ⟨rfl,rfl⟩)));go_ret2;exact ⟨rfl,(f0.trans f2).trans f3⟩
  ·have hbi:¬ (65536:Int)<(T.length:Int):=by omega
   rw [if_neg hb];go_enter Tryz.func29,Tryz.ntmps29;go_wp2_with (first|(rw [HW.out];refine gI rfl _ rfl w.heap.size rfl g0 rfl ?_)|(go_at_call 41;((with_reducible refine HC.out.mono ?_);rintro e w2 ⟨rfl,f2⟩;have g2:=(f2.blk g0 (fun e=>e)).alloc (.cells #[.pointer none,.slice none 0 0] 93)))|(refine gI rfl _ rfl w.heap.size rfl g2 rfl ?_)|(go_at_call 59;((with_reducible refine (HL.out _ f2).mono ?_);rintro e w3 ⟨rfl,H3,f3⟩))|(go_at_call 60;((with_reducible refine (zC _ _ T _ H3.out).mono ?_);rintro e w4 ⟨rfl,rfl⟩))|(go_at_call 61;((with_reducible refine (ef _ _ T _ H3.out f3.size).mono ?_);rintro e w5 ⟨rfl,_,h5⟩)));go_ret2;exact ⟨rfl,((f0.trans f2).trans f3).behind h5.1 (f0.trans f2).size⟩
 ·have et:cu j=([],aw 0 j):=by unfold cu;rw [if_neg hz]
  rw [et];generalize aw 0 j=q at *;have YR:¬ (q:Int)=0:=by omega
  go_enter Tryz.func29,Tryz.ntmps29;go_wp2_with (first|(rw [HW.out];refine gI rfl _ rfl w.heap.size rfl g0 rfl ?_)|(go_at_call 41;((with_reducible refine HC.out.mono ?_);rintro e w2 ⟨rfl,f2⟩)));go_ret2;exact ⟨rfl,f0.trans f2⟩
theorem La {l l':List Nat} (f:Nat->Nat) (h:l.Perm l'):(l.map f).sum=(l'.map f).sum:=by
 induction h with
 | nil=>rfl
 | cons x _ ih=>simp only [List.map_cons,List.sum_cons,ih]
 | swap x y l=>simp only [List.map_cons,List.sum_cons];omega
 | trans _ _ ih1 ih2=>rw [ih1,ih2]
theorem GX (its:List Bs):(aC its).length<=(its.map (fun x=>x.length+1)).sum:=by
 cases its with
 | nil=>simp [aC]
 | cons y r=>
  have:∀ r:List Bs,(r.flatMap (fun y=>44::y)).length<=(r.map (fun x=>x.length+1)).sum:=by
   intro r;induction r with
   | nil=>simp
   | cons z q ih=>simp only [List.flatMap_cons,List.length_append,List.length_cons,List.map_cons,List.sum_cons];omega
  have:=this r;simp only [aC,List.length_append,List.map_cons,List.sum_cons];omega
theorem Ax:∀ (ks:List Bs) (n:Nat),((List.range n).map (fun p=>(af ks p).length)).sum<=Ei ks
 | [],n=>by
  have:∀ n,((List.range n).map (fun p=>(af [] p).length)).sum=0:=by
   intro n;induction n with
   | zero=>rfl
   | succ n ih=>rw [List.range_succ,List.map_append,List.sum_append,ih];simp [af]
  rw [this];omega
 | s::r,0=>by simp
 | s::r,n+1=>by
  have ih:=Ax r n;rw [List.range_succ_eq_map,List.map_cons,List.sum_cons,List.map_map];have e:((fun p=>(af (s::r) p).length) ∘ Nat.succ)=fun p=>(af r p).length:=by funext p;simp [af]
  rw [e];simp only [af,List.getD_cons_zero,Ei] at ih ⊢;omega
theorem vV:∀ (fs:List Bs),((List.range fs.length).map (fun p=>(fs.getD p []).length)).sum=(fs.map List.length).sum
 | []=>by simp
 | s::r=>by
  have ih:=vV r;rw [List.length_cons,List.range_succ_eq_map,List.map_cons,List.sum_cons,List.map_map];have e:((fun p=>((s::r).getD p []).length) ∘ Nat.succ)=fun p=>(r.getD p []).length:=by funext p;simp
  rw [e,ih];simp
theorem sum_add (f g:Nat->Nat) (l:List Nat):(l.map (fun p=>f p+g p)).sum=(l.map f).sum+(l.map g).sum:=by
 induction l with
 | nil=>simp
 | cons a r ih=>simp only [List.map_cons,List.sum_cons,ih];omega
theorem OP (c:Nat) (f:Nat->Nat) (l:List Nat):(l.map (fun p=>c*f p)).sum=c*(l.map f).sum:=by
 induction l with
 | nil=>simp
 | cons a r ih=>simp only [List.map_cons,List.sum_cons,ih,Nat.mul_add]
theorem GY (c:Nat) (l:List Nat):(l.map (fun _=>c)).sum=c*l.length:=by
 induction l with
 | nil=>simp
 | cons a r ih=>simp only [List.map_cons,List.sum_cons,ih,List.length_cons,Nat.mul_add];omega
theorem SD (f g:Nat->Nat) (h:∀ p,f p<=g p) (l:List Nat):(l.map f).sum<=(l.map g).sum:=by
 induction l with
 | nil=>simp
 | cons a r ih=>have:=h a;simp only [List.map_cons,List.sum_cons];omega
theorem vW (s:Bs):(bJ s).length<=6*s.length+2:=by
 have:=ow s;simp only [bJ,List.length_cons,List.length_append,List.length_nil];omega
theorem GZ (obj:Bool) (ks fs:List Bs):(aC (dr obj ks fs)).length<=6*Ei ks+4*fs.length+(fs.map List.length).sum:=by
 refine Nat.le_trans (GX _) ?_;unfold dr;rw [List.map_map];have h1:=La (fun p=>(kh obj ks fs p).length+1) (iz obj ks fs.length);have e:((fun x:Bs=>x.length+1) ∘ kh obj ks fs)=fun p=>(kh obj ks fs p).length+1:=rfl;rw [e,h1];refine Nat.le_trans (SD _ (fun p=>(6*(af ks p).length+4)+(fs.getD p []).length) (fun p => ?_) _) ?_
 ·have:=vW (af ks p);unfold kh;cases obj
  ·simp;omega
  ·simp only [if_true,List.length_append,List.length_cons,List.length_nil];omega
 ·rw [sum_add,vV,sum_add (fun p=>6*(af ks p).length) (fun _=>4),OP,GY,List.length_range];have:=Ax ks fs.length;omega
theorem qp {k i:Int} {t:Bs} {n:Nat} {ks:List Bs} (h:aW k i t n ks=true) : -9223372036854775808<=i/\i<=9223372036854775807:=by
 unfold aW at h;simp only [Bool.and_eq_true] at h;have h1:=h.1.2;simp only [gL,Bool.or_eq_true,Bool.and_eq_true,decide_eq_true_eq,beq_iff_eq] at h1;omega
mutual
theorem oJ:∀ (j:Jv) (n:Nat),aw n j=0->(br j).length+4<=30*iY j
 | .mk k i t l ks,n,h=>by
  obtain ⟨hf,hc⟩:=mo n k i t l ks h;have hi:=qp hf;have h1:=Lib.itoa_length_le i hi.1 hi.2;have h2:=vW t;have h3:=vX l (n+1) hc;rw [br];simp only [iY];split
  ·simp [im];omega
  ·split
   ·simp [eO];omega
   ·split
    ·simp [jd];omega
    ·split
     ·omega
     ·split
      ·omega
      ·have h4:=GZ (k==6) ks (cg l);rw [iT] at h4;simp only [List.length_cons,List.length_append,List.length_nil];omega
theorem vX:∀ (l:List Jv) (n:Nat),bI n l=0->4*l.length+((cg l).map List.length).sum<=30*uH l
 | [],n,_=>by simp [cg,uH]
 | j::r,n,h=>by
  have ha:=iy n (j::r) h;have hr:bI n r=0:=by
   rw [bI,if_pos (ha j (by simp))] at h;exact h
  have h1:=oJ j n (ha j (by simp));have h2:=vX r n hr;simp only [cg,uH,List.map_cons,List.sum_cons,List.length_cons];omega
end
theorem Lb (j:Jv) (h:iY j<=8388608):aw 0 j=0->(br j).length<=lim:=fun hc=>by
 have:=oJ j 0 hc;unfold lim;omega
theorem Ed {B:Nat} (j:Jv) (v:Value) (w:World) (hx:Cx B w) (hat:aG (All w) w j v) (hs:iY j<=8388608) :
  Calls Tryz.prog 29 #[v] w fun e w'=>e=.returned (.tuple #[sV (cu j).1,.int .i64 ((cu j).2:Int)])/\Fr NoB w w':=
 K9 (All w) j v w hx (fun _ h=>h) hat (pI j hs) (Lb j hs)
end Go.Proofs.YtbifjamddbpcjaaGreatDoor
namespace Go.Proofs.YtbifjamddbpcjaaGreatDoor
set_option maxRecDepth 100000
set_option maxHeartbeats 25600000
open Go.RowKit
theorem zE:∀ (l:List Ky) (m:Nat) (h:m<l.length) (j:Nat),j<8->(pH l)[m*8+j]?=(aR l[m])[j]?
 | [],m,h,_,_=>by simp at h
 | a::r,0,h,j,hj=>by
  rw [Nat.zero_mul,Nat.zero_add,List.getElem_cons_zero];show ((aR a).toList++pH r)[j]?=_;rw [List.getElem?_append_left (by simpa using hj),Array.getElem?_toList]
 | a::r,m+1,h,j,hj=>by
  have:=zE r m (by simpa using h) j hj;show ((aR a).toList++pH r)[(m+1)*8+j]?=_;rw [List.getElem?_append_right (by simp;omega),show (m+1)*8+j - (aR a).toList.length=m*8+j by simp;omega,this];rfl
theorem JV:(Tryz.prog.info? 27).map (fun i=>(i.zero,i.size,i.bytes))=some (some (.agg #[.int .i64 0,.string ⟨#[]⟩,.string ⟨#[]⟩,.string ⟨#[]⟩,.string ⟨#[]⟩,.string ⟨#[]⟩,.string ⟨#[]⟩,.string ⟨#[]⟩]),8,120):=by kernel_rfl
def sA (o k:Ky):Bool:=decide (o.kid=k.kid)&&decide (k.kid≠[])
theorem JW (o k:Ky) (g:Nat) (w:World) (hb:Blk w g 27 (aR k)) :
  Calls Tryz.prog 49 #[.agg (aR o),.pointer (some ⟨g,0,none⟩)] w fun e w'=>e=.returned (.bool (sA o k))/\Fr NoB w w':=by
 have fb:Fr NoB w (w.alloc (.cells (aR o) 27)):=(Fr.refl _ _).alloc _;have b0:=Blk.new w 27 (aR o);have bk:=fb.blk hb id;have HS:Hid (sA o k=(decide (o.kid=k.kid)&&decide (k.kid≠[]))):=hd' rfl;generalize sA o k=res at *;obtain ⟨oty,N5,aaw,on,oe,ox,oy,aax⟩:=o;obtain ⟨kty,kid,alg,n,e,x,y,sec⟩:=k;simp only at HS;go_enter Tryz.func49,Tryz.ntmps49;go_upto_region 1 with fail;generalize w.alloc (.cells (aR ⟨oty,N5,aaw,on,oe,ox,oy,aax⟩) 27)=W at *;have q1:W.cell? ⟨w.heap.size,1,none⟩=some (.string ⟨N5.toArray⟩):=(b0.cell 1).trans rfl;have p1:W.cell? ⟨g,1,none⟩=some (.string ⟨kid.toArray⟩):=(bk.cell 1).trans rfl;by_cases h1:N5=kid
 ·subst h1;by_cases h2:N5=[]
  ·subst h2;go_wp2_with fail;go_ret;exact ⟨by rw [HS.out];rfl,fb⟩
  ·have h3:(N5==[])=false:=by cases N5 with|nil=>exact absurd rfl h2|cons a b=>rfl
   have h4:N5.isEmpty=false:=by cases N5 with|nil=>exact absurd rfl h2|cons a b=>rfl
   go_wp2_with fail;go_ret;exact ⟨by rw [HS.out];simp [h2],fb⟩
 ·have h3:(N5==kid)=false:=by simpa using h1
  go_wp2_with fail;go_ret;exact ⟨by rw [HS.out];simp [h1],fb⟩
theorem Cm (l:List Ky) (m:Nat) (h:m<l.length) (k:Ky):jF (l.take (m+1)) k=(jF (l.take m) k || sA l[m] k):=by
 have lK:l.take (m+1)=l.take m++[l[m]]:=by rw [List.take_add_one,List.getElem?_eq_getElem h];rfl
 rw [lK,Cn];rfl
theorem FJ {l:List Ky} {o k:Ky} (h:o∈l) (hs:sA o k=true):jF l k=true:=by
 unfold jF;exact List.any_eq_true.2 ⟨o,h,hs⟩
theorem FK (out:List Ky) (k:Ky) (G:Nat) (sv:Value) (w:World) (hk:Blk w G 27 (aR k)) (hl:out.length<=1000) (bX:aT (All w) w sv out.length (pH out)) :
  Calls Tryz.prog 86 #[sv,.func (.func 49) #[] #[.pointer (some ⟨G,0,none⟩)]] w fun e w'=>∃ r:Int,e=.returned (.int .i64 r)/\((r = -1/\jF out k=false)\/(0<=r/\jF out k=true))/\Fr NoB w w':=by
 rcases bX with ⟨h0,a,c,rfl⟩|⟨g,o,c,rfl,hg,hc⟩
 ·have gH:out=[]:=List.eq_nil_of_length_eq_zero h0;subst gH;go_enter Tryz.func86,Tryz.ntmps86;go_wp2;go_loopw [8] (fun v8 wr=>v8=.int .i64 0/\Fr NoB w wr) (fun _ _=>0)
  case atStart=>exact ⟨rfl,Fr.refl _ _⟩
  case round=>
   obtain ⟨rfl,hf⟩:=hrel;go_wp2;go_ret;exact ⟨-1,rfl,Or.inl ⟨rfl,rfl⟩,hf⟩
 ·have HC:=hd' hc;have HK:=hd' hk;clear hc hk;go_enter Tryz.func86,Tryz.ntmps86;go_wp2;go_loopw [8] (fun v8 wr=>∃ m:Nat,m<=out.length/\v8=.int .i64 m/\Fr NoB w wr/\Hid (jF (out.take m) k=false)) (fun v8 _=>out.length - (intOf v8).toNat)
  case atStart=>exact ⟨0,Nat.zero_le _,rfl,Fr.refl _ _,hd' rfl⟩
  case round=>
   obtain ⟨m,hm,rfl,hf,HA⟩:=hrel;by_cases hlt:m<out.length
   ·have cc:∀ (j:Nat) u,j<8->(aR out[m])[j]?=some u->wr.cell? ⟨g,o+(m*8+j),none⟩=some u:=fun j u hj hu=>(hf.cell (p:=⟨g,o+(m*8+j),none⟩) hg id).trans (HC.out _ _ ((zE out m hlt j hj).trans hu));have HT:=hd' (Cm out m hlt k);have HM:=hd' (List.getElem_mem hlt);generalize out[m]=q at cc HT HM;have HS:Hid (∀ u,Fr NoB w u->Calls Tryz.prog 49 #[.agg (aR q),.pointer (some ⟨G,0,none⟩)] u fun e w'=>e=.returned (.bool (sA q k))/\Fr NoB u w'):=hd' (fun u f=>JW q k G u (f.blk HK.out id));obtain ⟨bb,zF⟩:∃ b,b=sA q k:=⟨_,rfl⟩;have HB:=hd' zF;rw [<- zF] at HS;clear zF;obtain ⟨kty,kid,alg,n,e,x,y,sec⟩:=q;have c0:wr.cell? ⟨g,o+m*8,none⟩=some (.int .i64 kty):=cc 0 _ (by omega) rfl;have c1:wr.cell? ⟨g,o+m*8+1,none⟩=some (.string ⟨kid.toArray⟩):=cc 1 _ (by omega) rfl;have c2:wr.cell? ⟨g,o+m*8+2,none⟩=some (.string ⟨alg.toArray⟩):=cc 2 _ (by omega) rfl;have c3:wr.cell? ⟨g,o+m*8+3,none⟩=some (.string ⟨n.toArray⟩):=cc 3 _ (by omega) rfl;have c4:wr.cell? ⟨g,o+m*8+4,none⟩=some (.string ⟨e.toArray⟩):=cc 4 _ (by omega) rfl;have c5:wr.cell? ⟨g,o+m*8+5,none⟩=some (.string ⟨x.toArray⟩):=cc 5 _ (by omega) rfl;have c6:wr.cell? ⟨g,o+m*8+6,none⟩=some (.string ⟨y.toArray⟩):=cc 6 _ (by omega) rfl;have c7:wr.cell? ⟨g,o+m*8+7,none⟩=some (.string ⟨sec.toArray⟩):=cc 7 _ (by omega) rfl;clear cc;(have i1:(0:Int)<=m:=by omega);(have i2:(m:Int)<out.length:=by omega);cases bb with
    | true=>
     go_wp2_with (go_at_call 49;((with_reducible refine (HS.out _ hf).mono ?_);rintro er w1 ⟨rfl,f1⟩));go_ret;exact ⟨m,rfl,Or.inr ⟨by omega,FJ HM.out HB.out.symm⟩,hf.trans f1⟩
    | false=>
     go_wp2_with (go_at_call 49;((with_reducible refine (HS.out _ hf).mono ?_);rintro er w1 ⟨rfl,f1⟩));go_roundw
     case rel=>exact ⟨m+1,by omega,by simp,hf.trans f1,hd' (by rw [HT.out,HA.out,<- HB.out];rfl)⟩
     case measure=>simp [intOf];omega
   ·obtain rfl:m=out.length:=by omega
    go_wp2;go_ret;exact ⟨-1,rfl,Or.inl ⟨rfl,by have:=HA.out;simpa using this⟩,hf⟩
theorem FN (out:List Ky) (k:Ky) (G:Nat) (sv:Value) (w:World) (hk:Blk w G 27 (aR k)) (hl:out.length<=1000) (bX:aT (All w) w sv out.length (pH out)) :
  Calls Tryz.prog 50 #[sv,.func (.func 49) #[] #[.pointer (some ⟨G,0,none⟩)]] w fun e w'=>e=.returned (.bool (jF out k))/\Fr NoB w w':=by
 have hI:=hd' (FK out k G sv w hk hl bX);clear hk hl bX;go_enter Tryz.func50,Tryz.ntmps50;go_wp2_with (go_at_call 86;((with_reducible refine hI.out.mono ?_);rintro e w1 ⟨r,rfl,hr,f1⟩));go_ret;refine ⟨?_,f1⟩;rcases hr with ⟨rfl,ha⟩|⟨h0,ha⟩
 ·rw [ha];rfl
 ·rw [ha];simp [h0]
theorem FQ (g n c:Nat) (w:World) (hn:n<=c):Calls Tryz.prog 51 #[.slice (some ⟨g,0,none⟩) n c] w fun e w'=>e=.returned (.slice (some ⟨g,0,none⟩) n n)/\Fr NoB w w':=by
 go_enter Tryz.func51,Tryz.ntmps51;go_wp2;go_ret;exact ⟨rfl,Fr.refl _ _⟩
def VL (o:Option (List Ky)) (w:World) (e:Ending) (w':World):Prop:=match o with
 | none=>e=.returned (.tuple #[.slice none 0 0,.int .i64 101])
 | some l=>∃ g,e=.returned (.tuple #[.slice (some ⟨g,0,none⟩) l.length l.length,.int .i64 0])/\0<l.length/\w.heap.size<=g/\g<w'.heap.size/\(∀ (i:Nat) u,(pH l)[i]?=some u->w'.cell? ⟨g,i,none⟩=some u)/\(∀ i,w'.frozen? ⟨g,i,none⟩=false)
theorem JX {j:Jv} (hc:aw 0 j=0) {k i:Int} {t:Bs} {L:List Jv} {ks:List Bs} (hJ:(dy j kg).getD Jv.pq=.mk k i t L ks):zG j=if k=5/\1<=L.length/\L.length<=8 then lk [] L else none:=by
 rw [zG,if_pos hc];cases hg:dy j kg with
 | none=>
  rw [hg] at hJ;have hk:(0:Int)=k:=congrArg Jv.kind hJ;rw [if_neg (by omega)]
 | some l=>
  rw [hg] at hJ;obtain rfl:l=.mk k i t L ks:=hJ;rfl
theorem Co {out:List Ky} {x:Jv} {r:List Jv} {k:Ky} (h:DS x=some k):lk out (x::r)=if jF out k then none else lk (out++[k]) r:=by
 rw [lk,h];rfl
theorem Cp {out:List Ky} {x:Jv} {r:List Jv} (h:DS x=none):lk out (x::r)=none:=by
 rw [lk,h]
theorem zH {w:World} {lo n:Nat} {v:Value} {xs:List Value} (h:w.ownsRow lo 27 8 v n xs) (hn:0<n) :
  ∃ g c,v=.slice (some ⟨g,0,none⟩) n c/\n<=c/\c<=9223372036854775807/\lo<=g/\g<w.heap.size/\(∀ (i:Nat) u,xs[i]?=some u->w.cell? ⟨g,i,none⟩=some u)/\(∀ i,w.frozen? ⟨g,i,none⟩=false):=by
 have hc:=@World.ownsRow.cells _ _ _ _ _ _ _ h;rcases h.2 with ⟨_,h0⟩|⟨g,cap,cur,rfl,hg,hh,h1,h2,_⟩
 ·omega
 ·refine ⟨g,cap,rfl,h1,by unfold maxLen at h2;omega,hg,lt_of_block hh,fun i u hu => ?_,fun i=>(show Blk w g 27 cur from hh).frozen i⟩;have:=hc (g:=g) rfl i u hu;rwa [bT,Nat.zero_add] at this
theorem JY {B:Nat} (j:Jv) (v:Value) (w:World) (hx:Cx B w) (hat:aG (All w) w j v) (eK:Jl j) (Rv:∀ l,dy j kg=some l->∀ x∈l.list,iY x<=8388608) :
  Calls Tryz.prog 18 #[v] w fun e w'=>VL (zG j) w e w'/\Fr NoB w w':=by
 obtain ⟨v0,v1,v2,v3,v4,rfl,dw⟩:=hat.form;have HC:Hid (∀ u,Fr NoB w u->Calls Tryz.prog 41 #[.agg #[v0,v1,v2,v3,v4]] u fun e w'=>e=.returned (.int .i64 (aw 0 j:Int))/\Fr NoB u w'):=hd' (fun u f=>pB (All u) j _ u (hx.eG f) (fun _ h=>h) (hat.all f) eK);have b0:=Blk.new w 31 #[v0,v1,v2,v3,v4];have f0:Fr NoB w (w.alloc (.cells #[v0,v1,v2,v3,v4] 31)):=(Fr.refl _ _).alloc _;have gi:aw 0 j=0->Jh j:=fun h=>by
  obtain ⟨k,i,t,l,ks⟩:=j;exact fun h6=>((jZ (mo 0 k i t l ks h).1).2.2 h6).1
 have HG:Hid (aw 0 j=0->∀ u,Fr NoB w u->Calls Tryz.prog 48 #[.agg #[v0,v1,v2,v3,v4],.string ⟨#[107,101,121,115]⟩] u fun e w'=>∃ x,e=.returned (.tuple #[x,.bool (dy j kg).isSome])/\aG (All u) w' ((dy j kg).getD Jv.pq) x/\Fr NoB u w'):=hd' (fun h u f=>rM (All u) j _ kg u (fun _ h=>h) (hat.all f) (gi h));have Bl:=hd' (HC.out _ f0);clear hat gi HC eK;by_cases hc:aw 0 j=0
 ·have qC:=hd' (HG.out hc);rw [hc] at Bl;have HEL:Hid (∀ x∈((dy j kg).getD Jv.pq).list,iY x<=8388608):=hd' (by
   cases hg:dy j kg with
   | none=>intro x hx;cases hx
   | some l=>exact Rv l hg)
  have HSK:Hid (∀ (k i:Int) (t:Bs) (L:List Jv) (ks:List Bs),(dy j kg).getD Jv.pq=.mk k i t L ks->zG j=if k=5/\1<=L.length/\L.length<=8 then lk [] L else none):=hd' (fun k i t L ks h=>JX hc h);clear hc HG Rv;generalize (dy j kg).getD Jv.pq=J at *;generalize zG j=res at *;go_enter Tryz.func18,Tryz.ntmps18;go_upto_region 1 with fail;generalize w.alloc (.cells #[v0,v1,v2,v3,v4] 31)=W at *;go_upto_region 3 with (first|(refine gI rfl _ rfl w.heap.size rfl b0 rfl ?_)|(go_at_call 41;((with_reducible refine Bl.out.mono ?_);rintro er w1 ⟨rfl,f1⟩)));have b1:=f1.blk b0 id;have F1:=f0.trans f1;have HG2:=hd' (qC.out _ F1);clear Bl qC b0;go_upto_region 4 with (first|(refine gI rfl _ rfl w.heap.size rfl b1 rfl ?_)|(go_at_call 48;((with_reducible refine HG2.out.mono ?_);rintro er u1 ⟨x1,rfl,h1,f2⟩;obtain ⟨FT,D9,FU,Ea,Eb,rfl,o1⟩:=h1.form;have n1:=Blk.new u1 31 zj))|(refine wpList_store_row rfl 31 _ _ rfl u1.heap.size #[FT,D9,FU,Ea,Eb] rfl rfl 31 zj n1 ah rfl o1 ?_));obtain ⟨p1,b2⟩:=iM u1 FT D9 FU Ea Eb;have F2:=F1.trans (f2.trans p1);have VM:aG (All u1) u1 J (.agg #[FT,D9,FU,Ea,Eb]):=aG.mono (fun _ hg=>Nat.lt_of_lt_of_le hg f2.size) _ _ h1;have hR:=VM.all p1;clear n1 o1 HG2 b1 f0 f1 f2 F1 h1 VM;obtain ⟨c0,c1,c2,c3,c4⟩:=b2.five;clear b2 p1;generalize (u1.alloc (.cells zj 31)).setRow u1.heap.size #[FT,D9,FU,Ea,Eb]=U1 at *;obtain ⟨k,i,t,L,ks⟩:=J;have aH:=HSK.out k i t L ks rfl;have VN:Hid (∀ x∈L,iY x<=8388608):=hd' HEL.out;clear HSK HEL;have hR0:=hR;simp only [aG] at hR0;obtain ⟨lv,kv,hagg,hk,hi,ht,gH,iB,cs,hcs,dd⟩:=hR0;obtain ⟨la,lc,rfl⟩:=dd.sl;simp only [jV,Value.agg.injEq,Array.mk.injEq,List.cons.injEq,and_true] at hagg;obtain ⟨rfl,rfl,rfl,rfl,rfl⟩:=hagg;unfold big at iB;clear hR hi ht gH;by_cases h5:k=5
  ·subst h5;by_cases MJ:1<=L.length
   ·(have aay:¬ ((L.length:Int)<1):=by omega);by_cases Ut:L.length<=8
    ·(have aaz:¬ ((8:Int)<(L.length:Int)):=by omega);rw [if_pos ⟨rfl,MJ,Ut⟩] at aH;have bV:=hd' aH;clear aH;go_upto_region 7 with fail;obtain ⟨i1,IG,nw,um,yy⟩:=info_parts JV;have HL:=hd' (And.intro hcs dd);have HOF:Hid (∀ (x:Jv) (y:Value) u,Fr NoB w u->aG (All u) u x y->iY x<=8388608->Calls Tryz.prog 16 #[y] u fun e w'=>e=.returned (.tuple #[.agg (aR ((DS x).getD kz)),.int .i64 (if (DS x).isSome then 0 else 100)])/\Fr NoB u w'):=hd' (fun x y u f h1 h2=>nt x y u (hx.eG f) h1 h2 (pI x h2));clear hcs dd;go_upto_region 8 with fail;go_loopw [6,38] (fun v6 v38 wr=>∃ (m:Nat) (out:List Ky),m<=L.length/\v38=.int .i64 m/\Hid (out.length=m)/\wr.ownsRow U1.heap.size 27 8 v6 out.length (pH out)/\Hid (res=lk out (L.drop m))/\Fr NoB U1 wr) (fun _ v38 _=>L.length - (intOf v38).toNat)
     case atStart=>exact ⟨0,[],by omega,rfl,hd' rfl,World.ownsRow_nil _ _ _ _,hd' bV.out,Fr.refl _ _⟩
     case round=>
      obtain ⟨m,out,hm,rfl,Br,hown,VO,hf⟩:=hrel;by_cases hlt:m<L.length
      ·(have k1:(0:Int)<=m:=by omega);(have k2:(m:Int)<L.length:=by omega);obtain ⟨hcs,dd⟩:=HL.out;obtain ⟨ga,oa,rfl,ha⟩:=dd.at_ hf (by omega);obtain ⟨y0,y1,y2,y3,y4,p0,p1,p2,p3,p4,oz⟩:=aq.get L cs m hlt hcs;have d0:wr.cell? ⟨ga,oa+m*5,none⟩=some y0:=ha _ _ p0;have d1:wr.cell? ⟨ga,oa+m*5+1,none⟩=some y1:=ha _ _ p1;have d2:wr.cell? ⟨ga,oa+m*5+2,none⟩=some y2:=ha _ _ p2;have d3:wr.cell? ⟨ga,oa+m*5+3,none⟩=some y3:=ha _ _ p3;have d4:wr.cell? ⟨ga,oa+m*5+4,none⟩=some y4:=ha _ _ p4;have Rw:=oz.all hf;have VP:=dp Rw.one;have hsz:=VN.out L[m] (List.getElem_mem hlt);have E0:Hid (L.drop m=L[m]::L.drop (m+1)):=hd' (List.drop_eq_getElem_cons hlt);generalize L[m]=x at *;clear ha p0 p1 p2 p3 p4 hcs oz;have nx:=Blk.new wr 31 zj;go_upto_region 10 with (refine wpList_store_row rfl 31 _ _ rfl wr.heap.size #[y0,y1,y2,y3,y4] rfl rfl 31 zj nx ah rfl VP ?_);obtain ⟨px,bx⟩:=iM wr y0 y1 y2 y3 y4;have xj:=hf.trans px;have gh:=px.row hown (fun _ _ e=>e);have HO:=hd' (HOF.out x _ _ (F2.trans xj) (Rw.all px) hsz);clear nx d0 d1 d2 d3 d4 Rw hown px hf;generalize (wr.alloc (.cells zj 31)).setRow wr.heap.size #[y0,y1,y2,y3,y4]=U2 at *;cases hq:DS x with
       | none=>
        rw [hq] at HO;have HN:Hid (res=none):=hd' (by rw [VO.out,E0.out,Cp hq]);obtain rfl:res=none:=HN.out;clear hq;have zb:=dP kz;go_wp2_with (first|(refine gI rfl _ rfl wr.heap.size rfl bx rfl ?_)|(go_at_call 16;((with_reducible refine HO.out.mono ?_);rintro er w4 ⟨rfl,f4⟩;have n4:=Blk.new w4 27 zk))|(refine wpList_store_row rfl 27 _ _ rfl w4.heap.size zk rfl rfl 27 _ n4 bf rfl zb ?_));go_ret2;exact ⟨rfl,(F2.trans (xj.trans f4)).trans (((Fr.refl NoB w4).alloc _).setRow w4.heap.size _ (Or.inl (Nat.le_refl _)))⟩
       | some q=>
        rw [hq] at HO;have JZ:Hid (res=if jF out q then none else lk (out++[q]) (L.drop (m+1))):=hd' (by rw [VO.out,E0.out,Co hq]);have VQ:=dP q;have hqC:Hid (∀ (i:Nat) u,(aR q)[i]?=some u->(aR q).toList[i]?=some u):=hd' (fun i u h=>by simpa using h);clear hq VO E0;go_upto_region 11 with (first|(refine gI rfl _ rfl wr.heap.size rfl bx rfl ?_)|(go_at_call 16;((with_reducible refine HO.out.mono ?_);rintro er w4 ⟨rfl,f4⟩;have n4:=Blk.new w4 27 zk))|(refine wpList_store_row rfl 27 _ _ rfl w4.heap.size (aR q) rfl rfl 27 _ n4 bf rfl VQ ?_));have p4:Fr NoB w4 ((w4.alloc (.cells zk 27)).setRow w4.heap.size (aR q)):=((Fr.refl NoB w4).alloc _).setRow w4.heap.size _ (Or.inl (Nat.le_refl _));have b4:Blk ((w4.alloc (.cells zk 27)).setRow w4.heap.size (aR q)) w4.heap.size 27 (aR q):=n4.setRow _;have Iz:=xj.trans (f4.trans p4);have sB:=(f4.trans p4).row gh (fun _ _ e=>e);clear n4 gh xj bx HO;generalize (w4.alloc (.cells zk 27)).setRow w4.heap.size (aR q)=U5 at *;have VR:=hd' (FN out q w4.heap.size u6 U5 b4 (by have:=Br.out;omega) ((aT.own sB).mono (fun _ h=>h.2)));cases tY:jF out q with
        | true=>
         rw [tY] at VR JZ;obtain rfl:res=none:=JZ.out;clear tY;go_wp2_with (go_at_call 50;((with_reducible refine VR.out.mono ?_);rintro er w6 ⟨rfl,f6⟩));go_ret2;exact ⟨rfl,F2.trans (Iz.trans f6)⟩
        | false=>
         rw [tY] at VR JZ;have aaA:Hid (res=lk (out++[q]) (L.drop (m+1))):=hd' JZ.out;clear tY JZ;go_upto_region 14 with (go_at_call 50;((with_reducible refine VR.out.mono ?_);rintro er w6 ⟨rfl,f6⟩));have b6:=f6.blk b4 id;have Ul:=Iz.trans f6;have Rx:=f6.row sB (fun _ _ e=>e);have cN:∀ j,u6.ownBlock=some j->U1.heap.size<=j/\j<w6.heap.size:=fun j hj=>Rx.lt j hj;have ahU:U1.heap.size<=w6.heap.size:=Ul.size;obtain ⟨Ry,Rz,Cq,qn,qe,qx,qy,Cr⟩:=q;have e0:w6.cell? ⟨w4.heap.size,0,none⟩=some (.int .i64 Ry):=(b6.cell 0).trans rfl;have e1:w6.cell? ⟨w4.heap.size,1,none⟩=some (.string ⟨Rz.toArray⟩):=(b6.cell 1).trans rfl;have e2:w6.cell? ⟨w4.heap.size,2,none⟩=some (.string ⟨Cq.toArray⟩):=(b6.cell 2).trans rfl;have e3:w6.cell? ⟨w4.heap.size,3,none⟩=some (.string ⟨qn.toArray⟩):=(b6.cell 3).trans rfl;have e4:w6.cell? ⟨w4.heap.size,4,none⟩=some (.string ⟨qe.toArray⟩):=(b6.cell 4).trans rfl;have e5:w6.cell? ⟨w4.heap.size,5,none⟩=some (.string ⟨qx.toArray⟩):=(b6.cell 5).trans rfl;have e6:w6.cell? ⟨w4.heap.size,6,none⟩=some (.string ⟨qy.toArray⟩):=(b6.cell 6).trans rfl;have e7:w6.cell? ⟨w4.heap.size,7,none⟩=some (.string ⟨Cr.toArray⟩):=(b6.cell 7).trans rfl;clear sB Iz VR b4 p4 b6 f6 f4;have dq:=((Fr.refl NoB w6).alloc (.cells (aR ⟨Ry,Rz,Cq,qn,qe,qx,qy,Cr⟩) 27)).row Rx (fun _ _ e=>e);go_wp2_with (at_builtin;go_loud (refine wpList_append_lies _ rfl _ _ 43 rfl U1.heap.size 27 i1 (.agg #[.int .i64 0,.string ⟨#[]⟩,.string ⟨#[]⟩,.string ⟨#[]⟩,.string ⟨#[]⟩,.string ⟨#[]⟩,.string ⟨#[]⟩,.string ⟨#[]⟩]) 8 120 Tryz.underlying43 IG nw um yy rfl (by decide) u6 out.length (pH out) rfl dq ⟨w6.heap.size,0,none⟩ 1 1 [.int .i64 Ry,.string ⟨Rz.toArray⟩,.string ⟨Cq.toArray⟩,.string ⟨qn.toArray⟩,.string ⟨qe.toArray⟩,.string ⟨qx.toArray⟩,.string ⟨qy.toArray⟩,.string ⟨Cr.toArray⟩] rfl rfl (World.news_of_block (cs := #[.int .i64 Ry,.string ⟨Rz.toArray⟩,.string ⟨Cq.toArray⟩,.string ⟨qn.toArray⟩,.string ⟨qe.toArray⟩,.string ⟨qx.toArray⟩,.string ⟨qy.toArray⟩,.string ⟨Cr.toArray⟩]) (t:=27) (fr:=(0,0)) (heap_alloc_new w6 _)) (by intro u hu;simp only [List.mem_cons,List.not_mem_nil,or_false] at hu;rcases hu with rfl|rfl|rfl|rfl|rfl|rfl|rfl|rfl<;>rfl) (by omega) (by have:=Br.out;unfold maxLen;omega) (by have:=Br.out;omega) (by simp;omega) (w6.heap.size+1) (by simp) ?_;intro g' cap' wl hown hgr hat qF));have fA:Fr NoB U1 wl:=(Ul.alloc _).grown hgr (fun j hj hl=>absurd (cN j hj).1 (by omega));have HOW:Hid (wl.ownsRow U1.heap.size 27 8 (.slice (some ⟨g',0,none⟩) (out.length+1) cap') (out++[(⟨Ry,Rz,Cq,qn,qe,qx,qy,Cr⟩:Ky)]).length (pH (out++[⟨Ry,Rz,Cq,qn,qe,qx,qy,Cr⟩]))):=hd' (by rw [FV,List.length_append];exact hown);clear hown hgr hat dq Rx e0 e1 e2 e3 e4 e5 e6 e7;go_roundw
         case rel=>exact ⟨m+1,out++[⟨Ry,Rz,Cq,qn,qe,qx,qy,Cr⟩],by omega,by simp,hd' (by rw [List.length_append,Br.out];rfl),HOW.out,aaA,fA⟩
         case measure=>simp [intOf];omega
      ·obtain rfl:m=L.length:=by omega
       (have xp:0<out.length:=by have:=Br.out;omega);have HRo:Hid (res=some out):=hd' (by rw [VO.out,List.drop_length];rfl);obtain rfl:res=some out:=HRo.out;obtain ⟨gs,cc,rfl,Ur,hcb,hg1,Bk,hcell,Jd⟩:=zH hown xp;have HCL:=hd' (fun u=>FQ gs out.length cc u Ur);have HFI:Hid (∀ u,Fr NoB wr u->gs<u.heap.size/\(∀ (i:Nat) x,(pH out)[i]?=some x->u.cell? ⟨gs,i,none⟩=some x)/\(∀ i,u.frozen? ⟨gs,i,none⟩=false)):=hd' (fun u f=>⟨Nat.lt_of_lt_of_le Bk f.size,fun i x hx=>(f.cell (p:=⟨gs,i,none⟩) Bk id).trans (hcell i x hx),fun i=>(World.frozen?_of_block (w:=wr) (f.block gs Bk id)).trans (Jd i)⟩);have hF:=F2.trans hf;have hsz:=F2.size;clear hown hcell Jd VO HOF HL VN;go_wp2_with (go_at_call 51;((with_reducible refine (HCL.out _).mono ?_);rintro er w6 ⟨rfl,f6⟩));go_ret2;obtain ⟨a1,a2,a3⟩:=HFI.out w6 f6;exact ⟨⟨gs,rfl,xp,by omega,a1,a2,a3⟩,hF.trans f6⟩
    ·(have aaz:(8:Int)<(L.length:Int):=by omega);rw [if_neg (fun e=>Ut e.2.2)] at aH;obtain rfl:res=none:=aH;go_wp2_with fail;go_ret2;exact ⟨rfl,F2⟩
   ·(have aay:(L.length:Int)<1:=by omega);rw [if_neg (fun e=>MJ e.2.1)] at aH;obtain rfl:res=none:=aH;go_wp2_with fail;go_ret2;exact ⟨rfl,F2⟩
  ·rw [if_neg (fun e=>h5 e.1)] at aH;obtain rfl:res=none:=aH;go_wp2_with fail;go_ret2;exact ⟨rfl,F2⟩
 ·have aH:zG j=none:=by rw [zG,if_neg hc]
  rw [aH];have hci:¬ (aw 0 j:Int)=0:=by omega
  generalize aw 0 j=q at *;clear HG aH;go_enter Tryz.func18,Tryz.ntmps18;go_upto_region 1 with fail;generalize w.alloc (.cells #[v0,v1,v2,v3,v4] 31)=W at *;go_wp2_with (first|(refine gI rfl _ rfl w.heap.size rfl b0 rfl ?_)|(go_at_call 41;((with_reducible refine Bl.out.mono ?_);rintro er w1 ⟨rfl,f1⟩)));go_ret2;exact ⟨rfl,f0.trans f1⟩
theorem zI (j:Jv):(cu j).1.length<=65536:=by
 unfold cu;split
 ·split
  ·simp
  ·simp only;omega
 ·simp
theorem J0:∀ {l:List (Bs×Bs)} {p:Bs×Bs},p∈l->p.2.length+p.1.length+6<=(l.map (fun p=>p.2.length+p.1.length+6)).sum
 | a::r,p,h=>by
  simp only [List.map_cons,List.sum_cons];rcases List.mem_cons.1 h with rfl|h
  ·omega
  ·have:=J0 h;omega
 | [],p,h=>by cases h
theorem zJ {k:Ky} (h:yC k<=1048576):∀ p∈az k,p.1.length<=big/\p.2.length<=big:=fun p hp=>by
 have h1:=J0 hp;have h2:=J1 k;unfold big;omega
theorem sC {B:Nat} (k:Ky) (w:World) (hx:Cx B w) (hi:IntOk k.kty) (hz:yC k<=1048576) :
  Calls Tryz.prog 10 #[.agg (aR k)] w fun e w'=>e=.returned (.tuple #[.string ⟨(if cI k then jS k else []).toArray⟩,.int .i64 (if cI k then 0 else 100)])/\Fr NoB w w':=by
 have eK:=Ec hi hz;have b0:=Blk.new w 27 (aR k);have f0:Fr NoB w (w.alloc (.cells (aR k) 27)):=(Fr.refl _ _).alloc _;have KC:Hid (∀ u,Calls Tryz.prog 12 #[.agg (aR k)] u fun e w'=>e=.returned (.int .i64 (if cI k then 0 else 100))/\Fr NoB u w'):=hd' (fun u=>kI k u eK);cases gi:cI k with
 | false=>
  rw [gi] at KC;obtain ⟨kty,kid,alg,n,e,x,y,sec⟩:=k;clear gi;go_enter Tryz.func10,Tryz.ntmps10;go_upto_region 1 with fail;generalize w.alloc (.cells (aR ⟨kty,kid,alg,n,e,x,y,sec⟩) 27)=W at *;have q0:W.cell? ⟨w.heap.size,0,none⟩=some (.int .i64 kty):=(b0.cell 0).trans rfl;have q1:W.cell? ⟨w.heap.size,1,none⟩=some (.string ⟨kid.toArray⟩):=(b0.cell 1).trans rfl;have q2:W.cell? ⟨w.heap.size,2,none⟩=some (.string ⟨alg.toArray⟩):=(b0.cell 2).trans rfl;have q3:W.cell? ⟨w.heap.size,3,none⟩=some (.string ⟨n.toArray⟩):=(b0.cell 3).trans rfl;have q4:W.cell? ⟨w.heap.size,4,none⟩=some (.string ⟨e.toArray⟩):=(b0.cell 4).trans rfl;have q5:W.cell? ⟨w.heap.size,5,none⟩=some (.string ⟨x.toArray⟩):=(b0.cell 5).trans rfl;have q6:W.cell? ⟨w.heap.size,6,none⟩=some (.string ⟨y.toArray⟩):=(b0.cell 6).trans rfl;have q7:W.cell? ⟨w.heap.size,7,none⟩=some (.string ⟨sec.toArray⟩):=(b0.cell 7).trans rfl;go_wp2_with (go_at_call 12;((with_reducible refine (KC.out _).mono ?_);rintro e w1 ⟨rfl,f1⟩));go_ret2;exact ⟨rfl,f0.trans f1⟩
 | true=>
  rw [gi] at KC;have KM:Hid (∀ u,Calls Tryz.prog 22 #[.agg (aR k)] u fun e w'=>∃ g,e=.returned (.slice (some ⟨g,0,none⟩) (az k).length (az k).length)/\u.heap.size<=g/\Blk w' g 55 (iP (az k)).toArray/\Fr NoB u w'):=hd' (fun u=>ql k u (J2 gi) eK);have hML:=lL k;have KO:Hid (∀ u g,Blk u g 55 (iP (az k)).toArray->Calls Tryz.prog 26 #[.slice (some ⟨g,0,none⟩) (az k).length (az k).length] u fun e w'=>∃ v,e=.returned v/\aG (All w') w' (bD k) v/\Fr NoB u w'):=hd' (fun u g hb=>by
   have:=sD (az k) (.slice (some ⟨g,0,none⟩) (az k).length (az k).length) u (Or.inr ⟨g,0,_,rfl,hb.lt,fun i x hx=>by rw [Nat.zero_add,hb.cell];simpa using hx⟩) (by omega) (zJ hz);refine this.mono ?_;rintro e w' ⟨v,rfl,h,f⟩;exact ⟨v,rfl,aG.mono (fun _ h=>h.2) _ _ h,f⟩)
  have htz:iY (bD k)<=8388608:=by have:=zK k;omega
  have KT:Hid (∀ u v,Fr NoB w u->aG (All u) u (bD k) v->Calls Tryz.prog 29 #[v] u fun e w'=>e=.returned (.tuple #[.string ⟨(cu (bD k)).1.toArray⟩,.int .i64 ((cu (bD k)).2:Int)])/\Fr NoB u w'):=hd' (fun u v f h=>Ed (bD k) v u (hx.eG f) h htz);have Ix:eP (cu (bD k)).1=eP (cu (bD k)).1:=rfl;have hle:=zI (bD k);have KS:Hid (∀ u,Calls Tryz.prog 31 #[.string ⟨(cu (bD k)).1.toArray⟩] u fun e w'=>e=.returned (.string ⟨(eP (cu (bD k)).1).toArray⟩)/\Fr NoB u w'):=hd' (fun u=>sE _ u (by omega));have KB:Hid (∀ u,Calls Tryz.prog 30 #[.string ⟨(eP (cu (bD k)).1).toArray⟩] u fun e w'=>e=.returned (.string ⟨(jS k).toArray⟩)/\Fr NoB u w'):=hd' (fun u=>dZ _ u (by rw [sF];omega));generalize jS k=TP at *;generalize cu (bD k)=TT at *;obtain ⟨tx,te⟩:=TT;simp only at KT KS KB hle;generalize eP tx=SM at *;generalize bD k=TJ at *;generalize az k=M0 at *;obtain ⟨kty,kid,alg,n,e,x,y,sec⟩:=k;clear gi eK hi hz htz Ix hx;go_enter Tryz.func10,Tryz.ntmps10;go_upto_region 1 with fail;generalize w.alloc (.cells (aR ⟨kty,kid,alg,n,e,x,y,sec⟩) 27)=W at *;have q0:W.cell? ⟨w.heap.size,0,none⟩=some (.int .i64 kty):=(b0.cell 0).trans rfl;have q1:W.cell? ⟨w.heap.size,1,none⟩=some (.string ⟨kid.toArray⟩):=(b0.cell 1).trans rfl;have q2:W.cell? ⟨w.heap.size,2,none⟩=some (.string ⟨alg.toArray⟩):=(b0.cell 2).trans rfl;have q3:W.cell? ⟨w.heap.size,3,none⟩=some (.string ⟨n.toArray⟩):=(b0.cell 3).trans rfl;have q4:W.cell? ⟨w.heap.size,4,none⟩=some (.string ⟨e.toArray⟩):=(b0.cell 4).trans rfl;have q5:W.cell? ⟨w.heap.size,5,none⟩=some (.string ⟨x.toArray⟩):=(b0.cell 5).trans rfl;have q6:W.cell? ⟨w.heap.size,6,none⟩=some (.string ⟨y.toArray⟩):=(b0.cell 6).trans rfl;have q7:W.cell? ⟨w.heap.size,7,none⟩=some (.string ⟨sec.toArray⟩):=(b0.cell 7).trans rfl;have HQ:Hid (∀ u,Fr NoB W u->u.cell? ⟨w.heap.size,0,none⟩=some (.int .i64 kty)/\u.cell? ⟨w.heap.size,1,none⟩=some (.string ⟨kid.toArray⟩)/\u.cell? ⟨w.heap.size,2,none⟩=some (.string ⟨alg.toArray⟩)/\u.cell? ⟨w.heap.size,3,none⟩=some (.string ⟨n.toArray⟩)/\u.cell? ⟨w.heap.size,4,none⟩=some (.string ⟨e.toArray⟩)/\u.cell? ⟨w.heap.size,5,none⟩=some (.string ⟨x.toArray⟩)/\u.cell? ⟨w.heap.size,6,none⟩=some (.string ⟨y.toArray⟩)/\u.cell? ⟨w.heap.size,7,none⟩=some (.string ⟨sec.toArray⟩)):=hd' (fun u f=>⟨f.eD q0,f.eD q1,f.eD q2,f.eD q3,f.eD q4,f.eD q5,f.eD q6,f.eD q7⟩);go_upto_region 4 with (go_at_call 12;((with_reducible refine (KC.out _).mono ?_);rintro er w1 ⟨rfl,f1⟩));obtain ⟨r0,r1,r2,r3,r4,r5,r6,r7⟩:=HQ.out w1 f1;clear q0 q1 q2 q3 q4 q5 q6 q7 KC;go_wp2_with (first|(go_at_call 22;((with_reducible refine (KM.out _).mono ?_);rintro er w2 ⟨g,rfl,hgs,VS,f2⟩;have F2:=f0.trans (f1.trans f2)))|(go_at_call 26;((with_reducible refine (KO.out _ _ VS).mono ?_);rintro er w3 ⟨v,rfl,hv,f3⟩;have F3:=F2.trans f3))|(go_at_call 29;((with_reducible refine (KT.out _ _ F3 hv).mono ?_);rintro er w4 ⟨rfl,f4⟩))|(go_at_call 31;((with_reducible refine (KS.out _).mono ?_);rintro er w5 ⟨rfl,f5⟩))|(go_at_call 30;((with_reducible refine (KB.out _).mono ?_);rintro er w6 ⟨rfl,f6⟩)));go_ret2;exact ⟨rfl,F3.trans (f4.trans (f5.trans f6))⟩
theorem xG {B:Nat} (s:Bs) (j:Jv) (w:World) (hx:Cx B w) (hl:s.length<=65536) (hp:gX s=.ok j) :
  Calls Tryz.prog 40 #[.string ⟨s.toArray⟩] w fun e w'=>∃ v,e=.returned v/\aG (All w') w' j v/\Fr NoB w w':=by
 have HP:Hid (∀ u,Fr NoB w u->Calls Tryz.prog 77 #[.string ⟨s.toArray⟩] u fun e w'=>∃ v,e=.returned (.tuple #[v,.int .i64 0])/\aG (lB u.heap.size w'.heap.size) w' j v/\Fr NoB u w'):=hd' (fun u f=>by
  refine (FX s u (hx.eG f) (by omega)).mono fun e w' h => ?_;rw [hp] at h;obtain ⟨v,rfl,hj,f⟩:=h;exact ⟨v,rfl,hj.at_,f⟩)
 have b0:=Blk.new w 31 zj;have f0:Fr NoB w (w.alloc (.cells zj 31)):=(Fr.refl _ _).alloc _;have hsz:(w.alloc (.cells zj 31)).heap.size=w.heap.size+1:=by simp
 clear hp;go_enter Tryz.func40,Tryz.ntmps40;go_upto_region 1 with fail;generalize w.alloc (.cells zj 31)=W at *;go_upto_region 2 with (first|(go_at_call 77;((with_reducible refine (HP.out _ f0).mono ?_);rintro e u1 ⟨x1,rfl,h1,f1⟩;obtain ⟨FT,D9,FU,Ea,Eb,rfl,o1⟩:=h1.form;have n1:=Blk.new u1 31 zj))|(refine wpList_store_row rfl 31 _ _ rfl u1.heap.size #[FT,D9,FU,Ea,Eb] rfl rfl 31 zj n1 ah rfl o1 ?_));obtain ⟨p1,b1⟩:=iM u1 FT D9 FU Ea Eb;have F1:=f1.trans p1;have bz:=F1.blk b0 id;have R1:=aG.fr (fun g hg=>p1.block g hg.2 id) _ _ h1;have hs1:=p1.size;clear n1 h1;generalize (u1.alloc (.cells zj 31)).setRow u1.heap.size #[FT,D9,FU,Ea,Eb]=U1 at *;go_wp2_with (first|(refine gI rfl _ rfl u1.heap.size rfl b1 rfl ?_)|(refine wpList_store_row rfl 31 _ _ rfl w.heap.size #[FT,D9,FU,Ea,Eb] rfl rfl 31 zj bz ah rfl o1 ?_));exact bodyPost_ret (v:=.agg #[FT,D9,FU,Ea,Eb]) (results_cell_row (by rfl) _ _ w.heap.size _ _ _ _ rfl (bz.setRow _) Tryz.underlying31 rfl ah) rfl ⟨_,rfl,aG.mono (fun g hg=>by have:=hg.2;show g<(World.setRow _ _ _).heap.size;simp [World.setRow];omega) _ _ (aG.fr (fun g hg=>setRow_other _ _ _ _ (by have:=hg.1;omega)) _ _ R1),(f0.trans F1).setRow w.heap.size _ (Or.inl (by omega))⟩
theorem VT (u:World):(Op.equalIn 10000 27 (.agg #[.int .i64 2,.string ⟨#[]⟩,.string ⟨#[]⟩,.string ⟨#[]⟩,.string ⟨#[]⟩,.string ⟨#[]⟩,.string ⟨#[]⟩,.string ⟨#[97]⟩]) (.agg #[.int .i64 2,.string ⟨#[]⟩,.string ⟨#[]⟩,.string ⟨#[]⟩,.string ⟨#[]⟩,.string ⟨#[]⟩,.string ⟨#[]⟩,.string ⟨#[97]⟩])).run Tryz.prog u=.ok true u:=by kernel_rfl
theorem VU:iY RA<=8388608:=Nat.le_of_ble_eq_true (by kernel_rfl)
theorem VV:iY RB<=8388608:=Nat.le_of_ble_eq_true (by kernel_rfl)
theorem aaC:iY P6<=8388608:=Nat.le_of_ble_eq_true (by kernel_rfl)
theorem RC:yC gk<=1048576:=Nat.le_of_ble_eq_true (by kernel_rfl)
theorem VW:IntOk gk.kty:=by unfold IntOk gk;simp
theorem aaD:dy P6 kg=some (.mk 5 0 [] [] []):=by kernel_rfl
theorem Cs {B:Nat} (w:World) (hx:Cx B w):Calls Tryz.prog 15 #[] w fun e w'=>e=.returned (.bool true)/\Fr NoB w w':=by
 have uL:Hid (∀ u,Fr NoB w u->Calls Tryz.prog 40 #[.string ⟨#[123,34,107,34,58,34,89,81,34,44,34,107,116,121,34,58,34,111,99,116,34,44,34,120,34,58,49,125]⟩] u fun e w'=>∃ v,e=.returned v/\aG (All w') w' RA v/\Fr NoB u w'):=hd' (fun u f=>xG gS1 RA u (hx.eG f) (Nat.le_of_ble_eq_true rfl) gp1);have jt:Hid (∀ u,Fr NoB w u->Calls Tryz.prog 40 #[.string ⟨#[123,34,107,34,58,34,89,81,34,44,34,107,116,121,34,58,34,111,99,116,34,44,34,107,105,100,34,58,34,34,125]⟩] u fun e w'=>∃ v,e=.returned v/\aG (All w') w' RB v/\Fr NoB u w'):=hd' (fun u f=>xG gS2 RB u (hx.eG f) (Nat.le_of_ble_eq_true rfl) gp2);have Ee:Hid (∀ u,Fr NoB w u->Calls Tryz.prog 40 #[.string ⟨#[123,34,107,101,121,115,34,58,91,93,125]⟩] u fun e w'=>∃ v,e=.returned v/\aG (All w') w' P6 v/\Fr NoB u w'):=hd' (fun u f=>xG gS3 P6 u (hx.eG f) (Nat.le_of_ble_eq_true rfl) gp3);have YL:Hid (∀ u v,Fr NoB w u->aG (All u) u RA v->Calls Tryz.prog 16 #[v] u fun e w'=>e=.returned (.tuple #[.agg #[.int .i64 2,.string ⟨#[]⟩,.string ⟨#[]⟩,.string ⟨#[]⟩,.string ⟨#[]⟩,.string ⟨#[]⟩,.string ⟨#[]⟩,.string ⟨#[97]⟩],.int .i64 0])/\Fr NoB u w'):=hd' (fun u v f h=>by
  have:=nt RA v u (hx.eG f) h VU (pI _ VU);rw [go1] at this;exact this)
 have yw:Hid (∀ u v,Fr NoB w u->aG (All u) u RB v->Calls Tryz.prog 16 #[v] u fun e w'=>e=.returned (.tuple #[.agg #[.int .i64 0,.string ⟨#[]⟩,.string ⟨#[]⟩,.string ⟨#[]⟩,.string ⟨#[]⟩,.string ⟨#[]⟩,.string ⟨#[]⟩,.string ⟨#[]⟩],.int .i64 100])/\Fr NoB u w'):=hd' (fun u v f h=>by
  have:=nt RB v u (hx.eG f) h VV (pI _ VV);rw [go2] at this;exact this)
 have HV:Hid (∀ u,Calls Tryz.prog 8 #[.agg #[.int .i64 2,.string ⟨#[49]⟩,.string ⟨#[]⟩,.string ⟨#[]⟩,.string ⟨#[]⟩,.string ⟨#[]⟩,.string ⟨#[]⟩,.string ⟨#[97]⟩]] u fun e w'=>∃ v,e=.returned (.tuple #[v,.int .i64 0])/\aG (All w') w' (lr gk) v/\Fr NoB u w'):=hd' (fun u=>by
  have:=vl gk u (Ec VW RC);rw [gok] at this;refine this.mono ?_;rintro e w' ⟨v,rfl,h,f⟩;exact ⟨v,rfl,aG.mono (fun _ h=>h.2) _ _ h,f⟩)
 have hvz:iY (lr gk)<=8388608:=by have:=RD gk;have:=RC;omega
 have HT:Hid (∀ u v,Fr NoB w u->aG (All u) u (lr gk) v->Calls Tryz.prog 29 #[v] u fun e w'=>e=.returned (.tuple #[.string ⟨#[123,34,107,34,58,34,89,81,34,44,34,107,105,100,34,58,34,49,34,44,34,107,116,121,34,58,34,111,99,116,34,125]⟩,.int .i64 0])/\Fr NoB u w'):=hd' (fun u v f h=>by
  have:=Ed (lr gk) v u (hx.eG f) h hvz;rw [gt1] at this;exact this)
 have HS3:Hid (∀ u v,Fr NoB w u->aG (All u) u P6 v->Calls Tryz.prog 18 #[v] u fun e w'=>e=.returned (.tuple #[.slice none 0 0,.int .i64 101])/\Fr NoB u w'):=hd' (fun u v f h=>by
  have:=JY P6 v u (hx.eG f) h (pI _ aaC) (fun l hl=>by rw [aaD] at hl;cases hl;intro x hx;cases hx);rw [go3] at this;exact this)
 have HTh:Hid (∀ u,Fr NoB w u->Calls Tryz.prog 10 #[.agg #[.int .i64 2,.string ⟨#[49]⟩,.string ⟨#[]⟩,.string ⟨#[]⟩,.string ⟨#[]⟩,.string ⟨#[]⟩,.string ⟨#[]⟩,.string ⟨#[97]⟩]] u fun e w'=>e=.returned (.tuple #[.string ⟨(aX (eP J3)).toArray⟩,.int .i64 0])/\Fr NoB u w'):=hd' (fun u f=>by
  have:=sC gk u (hx.eG f) VW RC;rw [gok,if_pos rfl,if_pos rfl,gth] at this;exact this)
 have HS:Hid (∀ u,Calls Tryz.prog 31 #[.string ⟨#[123,34,107,34,58,34,89,81,34,44,34,107,116,121,34,58,34,111,99,116,34,125]⟩] u fun e w'=>e=.returned (.string ⟨(eP J3).toArray⟩)/\Fr NoB u w'):=hd' (fun u=>sE J3 u (Nat.lt_of_le_of_lt (Nat.le_of_ble_eq_true rfl:J3.length<=100) (by omega)));have HB:Hid (∀ u,Calls Tryz.prog 30 #[.string ⟨(eP J3).toArray⟩] u fun e w'=>e=.returned (.string ⟨(aX (eP J3)).toArray⟩)/\Fr NoB u w'):=hd' (fun u=>dZ _ u (by rw [sF];omega));generalize aX (eP J3)=TH at *;generalize eP J3=SM at *;generalize lr gk=VJ at *;have VX:((#[.int .i64 2,.string ⟨#[]⟩,.string ⟨#[]⟩,.string ⟨#[]⟩,.string ⟨#[]⟩,.string ⟨#[]⟩,.string ⟨#[]⟩,.string ⟨#[97]⟩]:Array Value).all (·.oneCell'))=true:=by simp [Value.oneCell']
 have VY:(zk.all (·.oneCell'))=true:=by simp [Value.oneCell']
 clear hvz;go_enter Tryz.func15,Tryz.ntmps15;go_upto_region 2 with (first|(go_at_call 40;((with_reducible refine (uL.out _ (Fr.refl _ _)).mono ?_);rintro er u1 ⟨v1,rfl,h1,f1⟩))|(go_at_call 16;((with_reducible refine (YL.out _ _ f1 h1).mono ?_);rintro er u2 ⟨rfl,f2⟩;have n2:=Blk.new u2 27 zk))|(refine wpList_store_row rfl 27 _ _ rfl u2.heap.size #[.int .i64 2,.string ⟨#[]⟩,.string ⟨#[]⟩,.string ⟨#[]⟩,.string ⟨#[]⟩,.string ⟨#[]⟩,.string ⟨#[]⟩,.string ⟨#[97]⟩] rfl rfl 27 _ n2 bf rfl VX ?_));have F2:=(f1.trans f2).trans (((Fr.refl NoB u2).alloc (.cells zk 27)).setRow u2.heap.size #[.int .i64 2,.string ⟨#[]⟩,.string ⟨#[]⟩,.string ⟨#[]⟩,.string ⟨#[]⟩,.string ⟨#[]⟩,.string ⟨#[]⟩,.string ⟨#[97]⟩] (Or.inl (Nat.le_refl _)));have b2:=n2.setRow #[.int .i64 2,.string ⟨#[]⟩,.string ⟨#[]⟩,.string ⟨#[]⟩,.string ⟨#[]⟩,.string ⟨#[]⟩,.string ⟨#[]⟩,.string ⟨#[97]⟩];clear n2 h1 f1 f2 VX;generalize (u2.alloc (.cells zk 27)).setRow u2.heap.size #[.int .i64 2,.string ⟨#[]⟩,.string ⟨#[]⟩,.string ⟨#[]⟩,.string ⟨#[]⟩,.string ⟨#[]⟩,.string ⟨#[]⟩,.string ⟨#[97]⟩]=W2 at *;go_upto_region 3 with (first|(go_at_call 40;((with_reducible refine (jt.out _ F2).mono ?_);rintro er u3 ⟨v3,rfl,h3,f3⟩))|(go_at_call 16;((with_reducible refine (yw.out _ _ (F2.trans f3) h3).mono ?_);rintro er u4 ⟨rfl,f4⟩;have n4:=Blk.new u4 27 zk))|(refine wpList_store_row rfl 27 _ _ rfl u4.heap.size zk rfl rfl 27 _ n4 bf rfl VY ?_));have g4:=(f3.trans f4).trans (((Fr.refl NoB u4).alloc (.cells zk 27)).setRow u4.heap.size zk (Or.inl (Nat.le_refl _)));have F4:=F2.trans g4;have b3:=g4.blk b2 id;clear n4 h3 f3 f4 VY b2 g4;generalize (u4.alloc (.cells zk 27)).setRow u4.heap.size zk=W4 at *;go_upto_region 4 with (first|(go_at_call 8;((with_reducible refine (HV.out _).mono ?_);rintro er u5 ⟨v5,rfl,h5,f5⟩;obtain ⟨x0,x1,x2,x3,x4,rfl,o5⟩:=h5.form;have n5:=Blk.new u5 31 zj))|(refine wpList_store_row rfl 31 _ _ rfl u5.heap.size #[x0,x1,x2,x3,x4] rfl rfl 31 zj n5 ah rfl o5 ?_));obtain ⟨p5,b5⟩:=iM u5 x0 x1 x2 x3 x4;have F5:=F4.trans (f5.trans p5);have b4:=(f5.trans p5).blk b3 id;have R5:=h5.all p5;clear n5 h5 f5 p5 b3 o5;generalize (u5.alloc (.cells zj 31)).setRow u5.heap.size #[x0,x1,x2,x3,x4]=W5 at *;go_upto_region 5 with (first|(refine gI rfl _ rfl u5.heap.size rfl b5 rfl ?_)|(go_at_call 29;((with_reducible refine (HT.out _ _ F5 R5).mono ?_);rintro er u6 ⟨rfl,f6⟩)));have F6:=F5.trans f6;have b6:=f6.blk b4 id;clear R5 b5 b4;go_upto_region 6 with (first|(go_at_call 40;((with_reducible refine (Ee.out _ F6).mono ?_);rintro er u7 ⟨v7,rfl,h7,f7⟩))|(go_at_call 18;((with_reducible refine (HS3.out _ _ (F6.trans f7) h7).mono ?_);rintro er u8 ⟨rfl,f8⟩)));have F8:=F6.trans (f7.trans f8);have b8:=(f7.trans f8).blk b6 id;clear h7 b6;go_upto_region 7 with (go_at_call 10;((with_reducible refine (HTh.out _ F8).mono ?_);rintro er u9 ⟨rfl,f9⟩));have F9:=F8.trans f9;have b9:=f9.blk b8 id;have c0:u9.cell? ⟨u2.heap.size,0,none⟩=some (.int .i64 2):=(b9.cell 0).trans rfl;have c1:u9.cell? ⟨u2.heap.size,1,none⟩=some (.string ⟨#[]⟩):=(b9.cell 1).trans rfl;have c2:u9.cell? ⟨u2.heap.size,2,none⟩=some (.string ⟨#[]⟩):=(b9.cell 2).trans rfl;have c3:u9.cell? ⟨u2.heap.size,3,none⟩=some (.string ⟨#[]⟩):=(b9.cell 3).trans rfl;have c4:u9.cell? ⟨u2.heap.size,4,none⟩=some (.string ⟨#[]⟩):=(b9.cell 4).trans rfl;have c5:u9.cell? ⟨u2.heap.size,5,none⟩=some (.string ⟨#[]⟩):=(b9.cell 5).trans rfl;have c6:u9.cell? ⟨u2.heap.size,6,none⟩=some (.string ⟨#[]⟩):=(b9.cell 6).trans rfl;have c7:u9.cell? ⟨u2.heap.size,7,none⟩=some (.string ⟨#[97]⟩):=(b9.cell 7).trans rfl;have HE:=VT;clear b8 b9 uL jt Ee YL yw HV HT HS3 HTh F2 F4 F5 F6 F8 f6 f7 f8 f9;go_wp2_with (first|(go_at_call 31;((with_reducible refine (HS.out _).mono ?_);rintro er w1 ⟨rfl,f1⟩))|(go_at_call 30;((with_reducible refine (HB.out _).mono ?_);rintro er w2 ⟨rfl,f2⟩)));go_ret;exact ⟨rfl,F9.trans (f1.trans f2)⟩
end Go.Proofs.YtbifjamddbpcjaaGreatDoor
