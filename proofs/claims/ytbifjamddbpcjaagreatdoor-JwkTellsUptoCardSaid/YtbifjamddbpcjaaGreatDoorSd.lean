/- The document's sums (layer 2): Of, the kind of Sha256. -/
import Derived.Test.YtbifjamddbpcjaaGreatDoorSb
import Derived.Test.YtbifjamddbpcjaaGreatDoorGa
namespace Go.Proofs.YtbifjamddbpcjaaGreatDoor
set_option maxRecDepth 100000
set_option maxHeartbeats 25600000
open Go.RowKit
def U6 (lo:Nat) (w:World) (v:Value) (l:List Nat):Prop:=w.ownsRow lo 113 1 v l.length (l.map (dV .u64))
theorem U6.fr {lo:Nat} {w w':World} {v:Value} {l:List Nat} (h:U6 lo w v l) (f:Fr NoB w w'):U6 lo w' v l:=Fr.row f h (fun _ _ e=>e)
theorem U6.grown {lo:Nat} {w0 w w':World} {v:Value} {l:List Nat} (h:U6 lo w v l) (f:Fr NoB w0 w) (hg:w.grownBy w' v.ownBlock) (cN:w0.heap.size<=lo):Fr NoB w0 w':=
 f.grown hg (fun j hj hlt=>absurd (World.ownsRow.lt h j hj).1 (by omega))
theorem U6.new (w:World):U6 w.heap.size (w.alloc (.cells #[] 113)) (.slice (some ⟨w.heap.size,0,none⟩) 0 0) []:=
 ⟨by simp,Or.inr ⟨w.heap.size,0,#[],rfl,Nat.le_refl _,Blk.new w _ _,Nat.le_refl _,by unfold maxLen;omega,rfl,rfl⟩⟩
theorem U6.num {lo:Nat} {w:World} {v:Value} {l:List Nat} (h:U6 lo w v l) (h1:bl l) (h2:l.length<=33554432):dU .u64 w v l:=by
 refine ⟨h1,h2,?_⟩;have hc:=@World.ownsRow.cells _ _ _ _ _ _ _ h;rcases h.2 with ⟨e,h0⟩|⟨g,cap,cur,rfl,hg,hh,hn,_⟩
 ·have:l=[]:=List.eq_nil_of_length_eq_zero h0;subst this;exact Or.inl ⟨rfl,none,0,e⟩
 ·refine Or.inr ⟨g,0,cap,rfl,hn,lt_of_block hh,fun i x hx => ?_⟩;have:=hc (g:=g) rfl i (dV .u64 x) (by rw [List.getElem?_map,hx];rfl);rwa [bT] at this
theorem TN {ops:Array Oper} {rest:List Oper} {o:Oper} {a:Act} {Q:Exit->Act->World->Prop} {w:World} (hgd:o.guard=none) (sl x:Operand)
  (ho:o.op=.call { callee:=.builtin .append,args := #[sl,x],argTypes := #[102,102] }) (lo:Nat) (v:Value) (l:List Nat) (hs:a.eval sl=v) (hown:U6 lo w v l) (g:Nat) (n:Nat) (hx:a.eval x=.slice (some ⟨g,0,none⟩) 1 1)
  (hc:w.cell? ⟨g,0,none⟩=some (dV .u64 n)) (hsz:l.length<=4398046511104) (cN:lo<=w.heap.size)
  (h:∀ v' w',U6 lo w' v' (l++[n])->w.grownBy w' v.ownBlock->wpList Tryz.prog ops Q rest (a.put o.dst v') w'):wpList Tryz.prog ops Q (o::rest) a w:=by
 obtain ⟨i0,jv,hz0,hz1,hz2⟩:=info_parts lM;refine wpList_append_own w hgd sl x 102 ho lo 113 i0 (.int .u64 0) 1 8 Tryz.underlying102 jv hz0 hz1 hz2 rfl (by decide) v l.length (l.map (dV .u64)) hs hown ⟨g,0,none⟩ 1 1 [dV .u64 n] hx (by simp) (fun j u hu => ?_) (fun u hu => ?_) (by unfold maxLen;omega) (by omega) cN (fun v' w' h1 h2 _=>h v' w' ?_ h2)
 ·obtain ⟨hj,rfl⟩:j=0/\u=dV .u64 n:=by
   cases j with
   | zero=>simp at hu;exact ⟨rfl,hu.symm⟩
   | succ j=>simp at hu
  rw [bT,hj];exact hc
 ·rw [List.mem_singleton] at hu;subst hu;rfl
 ·unfold U6;simpa using h1
theorem xY (w:World) (n:Int):(w.alloc (.cells #[.int .u64 n] 113)).cell? ⟨w.heap.size,0,none⟩=some (.int .u64 n):=by
 rw [World.cell?_alloc_mark];rfl
def oR:List Nat:=[2,3,5,7,11,13,17,19,23,29,31,37,41,43,47,53,59,61,67,71,73,79,83,89,97,101,103,107,109,113,127,131,137,139,149,151,157,163,167,173,179,181,191,193,197,199,211,223,227,229,233,239,241,251,257,263,269,271,277,281,283,293,307,311,313,317,331,337,347,349,353,359,367,373,379,383,389,397,401,409]
def jT (p:Nat):List Nat:=oR.filter (fun q=>decide (q<p))
theorem Ma:∀ p,p<410->2<=p->(jT p).all (fun q=>decide (p % q≠0))=decide (p∈oR):=by decide +kernel
theorem Pv:∀ p,p<410->(jT p).length<80:=by decide +kernel
theorem Pw:jT 410=oR:=by decide +kernel
theorem Mb:∀ p,p<410->jT (p+1)=if p∈oR then jT p++[p] else jT p:=by decide +kernel
theorem qY:∀ q∈oR,2<=q/\q<=409:=by decide +kernel
theorem xX (w:World):Calls Tryz.prog 111 #[.int .i64 80] w fun e w'=>∃ v,e=.returned v/\U6 w.heap.size w' v oR/\Fr NoB w w':=by
 go_enter Tryz.func111,Tryz.ntmps111;go_upto_region 2 with fail;have I1:=U6.new w;have f0:Fr NoB w (w.alloc (.cells #[] 113)):=(Fr.refl _ _).alloc _;generalize w.alloc (.cells #[] 113)=W at *;go_wp2_with fail;go_loopw [3,4] (fun v3 v4 wr=>∃ (p:Nat) (l:List Nat),2<=p/\p<=410/\Hid (l=jT p)/\l.length<=80/\v4=dV .u64 p/\U6 w.heap.size wr v3 l/\Fr NoB w wr) (fun _ v4 _=>410 - (intOf v4).toNat)
 case atStart=>exact ⟨2,[],by omega,by omega,hd' (by decide +kernel),by simp,rfl,I1,f0⟩
 case round=>
  clear I1 f0;obtain ⟨p,l,yY,hp,HL,iB,rfl,hu,hf⟩:=hrel;obtain ⟨w3,hw3⟩:∃ x,x=wr:=⟨_,rfl⟩;subst hw3;by_cases hlt:p<410
  ·have akZ:l.length<80:=by rw [HL.out];exact Pv p hlt
   have k1:(l.length:Int)<80:=by omega
   have HU:=hd' hu;have HF:=hd' hf;have Ls:Hid (∀ q∈l,2<=q/\q<=409):=hd' (fun q hq=>by
    rw [HL.out] at hq;exact qY q (List.mem_filter.1 hq).1)
   have XU:Hid (dU .u64 w3 u3 l):=hd' (hu.num (fun q hq=>by have:=(Ls.out q hq).2;omega) (by omega));have HST:Hid (l.all (fun q=>decide (p % q≠0))=decide (p∈oR)):=hd' (by rw [HL.out];exact Ma p hlt yY);have M8:Hid (jT (p+1)=if p∈oR then l++[p] else l):=hd' (by rw [HL.out];exact Mb p hlt);obtain ⟨aa,ca,rfl⟩:=XU.out.sl;clear hu hf HL;go_upto_region 6 with fail;go_wp2_with fail;go_loopw [5,6] (fun v5 v6 wr=>∃ i:Nat,i<=l.length/\v6=.int .i64 i/\v5=.bool ((l.take i).all (fun q=>decide (p % q≠0)))/\wr=w3) (fun _ v6 _=>l.length - (intOf v6).toNat)
   case atStart=>exact ⟨0,Nat.zero_le _,rfl,rfl,rfl⟩
   case round=>
    obtain ⟨i,hi,rfl,rfl,rfl⟩:=hrel;by_cases Aa:i<l.length
    ·(have j0:(0:Int)<=i:=by omega);(have j1:(i:Int)<l.length:=by omega);obtain ⟨g,o,rfl,hlc,hcell⟩:=XU.out.at_ (Fr.refl _ _) (by omega);have d0:=hcell i Aa;have HT:Hid ((l.take (i+1)).all (fun q=>decide (p % q≠0))=((l.take i).all (fun q=>decide (p % q≠0))&&decide (p % (l.getD i 0)≠0))):=hd' (by
      rw [List.take_add_one,List.getElem?_eq_getElem Aa,List.all_append,List.getD_eq_getElem?_getD,List.getElem?_eq_getElem Aa];simp)
     have hq:=Ls.out (l.getD i 0) (by
      rw [List.getD_eq_getElem?_getD,List.getElem?_eq_getElem Aa];exact List.getElem_mem Aa)
     clear hcell;generalize l.getD i 0=q at *;obtain ⟨ub,hq9⟩:=hq;(have hq0:¬ (q:Int)=0:=by omega);obtain ⟨m,hm⟩:∃ m,m=p % q:=⟨_,rfl⟩;rw [<- hm] at HT;(have e1:(p:Int).tmod (q:Int)=(m:Int):=by rw [Int.tmod_eq_emod_of_nonneg (by omega),hm];rfl);(have e2:(p:Int) % (q:Int)=(m:Int):=by rw [hm];rfl);(have uy:m<409+1:=by rw [hm];have:=Nat.mod_lt p (show 0<q by omega);omega);clear hm;generalize hb:(l.take i).all (fun q=>decide (p % q≠0))=b at *;clear hb;cases b with
     | false=>
      go_wp2_with fail;go_roundw
      case rel=>exact ⟨i+1,by omega,by simp,by rw [HT.out];rfl,trivial⟩
      case measure=>(simp [intOf]<;>omega)
     | true=>
      by_cases rI:m=0
      ·subst rI;go_wp2_with fail;go_roundw
       case rel=>exact ⟨i+1,by omega,by simp,by rw [HT.out];rfl,trivial⟩
       case measure=>(simp [intOf]<;>omega)
      ·(have qR:¬ (m:Int)=0:=by omega);go_wp2_with fail;go_roundw
       case rel=>exact ⟨i+1,by omega,by simp,by rw [HT.out];simp [rI],trivial⟩
       case measure=>(simp [intOf]<;>omega)
    ·obtain rfl:i=l.length:=by omega
     have HT:Hid ((l.take l.length).all (fun q=>decide (p % q≠0))=decide (p∈oR)):=hd' (by rw [List.take_length];exact HST.out);generalize (l.take l.length).all (fun q=>decide (p % q≠0))=b at *;have E8:=HF.out.size;cases b with
     | false=>
      have Nd:¬ p∈oR:=of_decide_eq_false HT.out.symm;have TQ:Hid (l=jT (p+1)):=hd' (by rw [M8.out,if_neg Nd]);clear Nd;go_wp2_with fail;go_roundw
      case rel=>exact ⟨p+1,l,by omega,by omega,TQ,by omega,by simp,HU.out,HF.out⟩
      case measure=>(simp [intOf]<;>omega)
     | true=>
      have Nd:p∈oR:=of_decide_eq_true HT.out.symm;have TQ:Hid (l++[p]=jT (p+1)):=hd' (by rw [M8.out,if_pos Nd]);clear Nd;have fA:Fr NoB wr (wr.alloc (.cells #[.int .u64 (p:Int)] 113)):=(Fr.refl _ _).alloc _;have hA:=HU.out.fr fA;go_wp2_with (at_builtin;go_loud (refine TN rfl _ _ rfl w.heap.size (.slice aa l.length ca) l rfl hA wr.heap.size p rfl (xY wr _) (by omega) (by simp<;>omega) ?_;intro v4 w4 aB hgr));go_roundw
      case rel=>exact ⟨p+1,l++[p],by omega,by omega,TQ,by simp;omega,by simp,aB,hA.grown (HF.out.trans fA) hgr (Nat.le_refl _)⟩
      case measure=>(simp [intOf]<;>omega)
  ·obtain rfl:p=410:=by omega
   have HE:Hid (l=oR):=hd' (by rw [HL.out,Pw]);have hlen:l.length=80:=by rw [HE.out];rfl
   obtain ⟨aa,ca,rfl⟩:∃ a c,u3=.slice a l.length c:=(hu.num (fun q hq=>by rw [HE.out] at hq;have:=(qY q hq).2;omega) (by omega)).sl;have JC:(l.length:Int)=80:=by omega
   have HU:=hd' hu;clear hu hlen iB;go_wp2_with fail;go_ret;exact ⟨_,rfl,by rw [<- HE.out];exact HU.out,hf⟩
end Go.Proofs.YtbifjamddbpcjaaGreatDoor
namespace Go.Proofs.YtbifjamddbpcjaaGreatDoor
set_option maxRecDepth 100000
set_option maxHeartbeats 25600000
open Go.RowKit
theorem EA {ops:Array Oper} {o:Oper} {a:Act} {K:Act->World->Prop} {Q:Exit->Act->World->Prop} {E:Prop} {w:World} (hgd:o.guard=none) (sl x:Operand)
  (ho:o.op=.call { callee:=.builtin .append,args := #[sl,x],argTypes := #[102,102] }) (lo:Nat) (v:Value) (l:List Nat) (hs:a.eval sl=v) (hown:U6 lo w v l) (g:Nat) (n:Nat) (hx:a.eval x=.slice (some ⟨g,0,none⟩) 1 1)
  (hc:w.cell? ⟨g,0,none⟩=some (dV .u64 n)) (hsz:l.length<=4398046511104) (cN:lo<=w.heap.size)
  (h:∀ v' w',U6 lo w' v' (l++[n])->w.grownBy w' v.ownBlock->K (a.put o.dst v') w') :
  if Region.wanted o (yielded ops a.tmps)=true then Oper.wp Tryz.prog o a w K Q else E:=by
 have hw:Region.wanted o (yielded ops a.tmps)=true:=by simp [Region.wanted,hgd]
 rw [if_pos hw];obtain ⟨i0,jv,hz0,hz1,hz2⟩:=info_parts lM;refine wp_append_own w sl x 102 ho lo 113 i0 (.int .u64 0) 1 8 Tryz.underlying102 jv hz0 hz1 hz2 rfl (by decide) v l.length (l.map (dV .u64)) hs hown ⟨g,0,none⟩ 1 1 [dV .u64 n] hx (by simp) (fun j u hu => ?_) (fun u hu => ?_) (by unfold maxLen;omega) (by omega) cN (fun v' w' h1 h2 _=>h v' w' ?_ h2)
 ·obtain ⟨hj,rfl⟩:j=0/\u=dV .u64 n:=by
   cases j with
   | zero=>simp at hu;exact ⟨rfl,hu.symm⟩
   | succ j=>simp at hu
  rw [bT,hj];exact hc
 ·rw [List.mem_singleton] at hu;subst hu;rfl
 ·unfold U6;simpa using h1
abbrev kndC (a b:Value):Array Value := #[.int .i64 32,.int .i64 64,.int .i64 32,.int .i64 7,.int .i64 18,.int .i64 3,.int .i64 17,.int .i64 19,.int .i64 10,.int .i64 6,.int .i64 11,.int .i64 25,.int .i64 2,.int .i64 13,.int .i64 22,a,b]
abbrev Ay:Array Value := #[.int .i64 0,.int .i64 0,.int .i64 0,.int .i64 0,.int .i64 0,.int .i64 0,.int .i64 0,.int .i64 0,.int .i64 0,.int .i64 0,.int .i64 0,.int .i64 0,.int .i64 0,.int .i64 0,.int .i64 0,.slice none 0 0,.slice none 0 0]
theorem jY:(Tryz.prog.info? 104).map (·.size)=some 17:=by kernel_rfl
def KL:List Nat:=(List.range 64).map (fun i=>nh (oR.getD i 0) 3 % 4294967296)
def FL:List Nat:=(List.range 8).map (fun i=>nh (oR.getD i 0) 2 % 4294967296)
theorem lW (f:Nat->Nat) (n i:Nat) (h:i<n):((List.range n).map f).take (i+1)=((List.range n).map f).take i++[f i]:=by
 rw [List.take_add_one,List.getElem?_map,List.getElem?_range h];rfl
theorem Le {fn:Func} (h:fn.results = #[.cell 2 104,.tmp 3]) (tmps:Array Value) (w:World) (g:Nat) (C:Array Value) (hC:C.size=17) (v:Value) (hp:tmps.getD 2 undef=.pointer (some ⟨g,0,none⟩)) (hv:tmps.getD 3 undef=v) (hb:Blk w g 104 C) :
  (results fn tmps).run Tryz.prog w=.ok (.tuple #[.agg C,v]) w:=by
 have ph:tmps[2]?.getD undef=.pointer (some ⟨g,0,none⟩):=by simpa using hp
 have hv':tmps[3]?.getD undef=v:=by simpa using hv
 simp [results,h,ph,hv',asAddr,run_loadVar_row w g 104 104 C (0,0) _ hb Tryz.underlying104 rfl (by rw [jY,hC])]
theorem G4 (i:Nat):oR.getD i 0<512:=by
 by_cases h:i<oR.length
 ·rw [List.getD_eq_getElem?_getD,List.getElem?_eq_getElem h];have:=(qY _ (List.getElem_mem h)).2;show oR[i]<512;omega
 ·rw [List.getD_eq_getElem?_getD,List.getElem?_eq_none (by omega)];decide
theorem jJ {lo:Nat} {w:World} {v:Value} {l:List Nat} (h:U6 lo w v l):v.oneCell'=true:=by
 have h0:w.ownsRow lo 113 1 v l.length (l.map (dV .u64)):=h;rcases h0.2 with ⟨e,_⟩|⟨g,cap,cur,e,_⟩
 ·rw [e];rfl
 ·rw [e];rfl
theorem Qj {lo:Nat} {w:World} {v:Value} {l:List Nat} (h:U6 lo w v l):∃ a c,v=.slice a l.length c:=by
 have h0:w.ownsRow lo 113 1 v l.length (l.map (dV .u64)):=h;rcases h0.2 with ⟨e,h1⟩|⟨g,cap,cur,e,_⟩
 ·exact ⟨none,0,by rw [e,h1]⟩
 ·exact ⟨_,_,e⟩
theorem U6.far {lo:Nat} {w:World} {v:Value} {l:List Nat} (h:U6 lo w v l) {G k:Nat} (hG:G<lo) (x:Value):U6 lo (w.setCell ⟨G,k,none⟩ x) v l:=
 ((Fr.refl (Only G) w).setCell (p:=⟨G,k,none⟩) rfl x).row h (fun j hj e=>by have h1:=(World.ownsRow.lt h j hj).1;have h2:j=G:=e;omega)
theorem ml {w:World} {g:Nat} {a b:Value} (h:Blk w g 104 (kndC a b)):w.cell? ⟨g,0,none⟩=some (.int .i64 32)/\w.cell? ⟨g,1,none⟩=some (.int .i64 64)/\w.cell? ⟨g,15,none⟩=some a/\w.cell? ⟨g,16,none⟩=some b/\w.frozen? ⟨g,15,none⟩=false/\w.frozen? ⟨g,16,none⟩=false:=
 ⟨(h.cell 0).trans rfl,(h.cell 1).trans rfl,(h.cell 15).trans rfl,(h.cell 16).trans rfl,h.frozen 15,h.frozen 16⟩
theorem Lf (w:World):Calls Tryz.prog 66 #[.int .i64 0] w fun e w'=>∃ vK vF,e=.returned (.tuple #[.agg (kndC vK vF),.bool true])/\U6 w.heap.size w' vK KL/\U6 w.heap.size w' vF FL/\Fr NoB w w':=by
 have dw:((kndC (.slice none 0 0) (.slice none 0 0)).all (·.oneCell'))=true:=by simp [Value.oneCell']
 go_enter Tryz.func66,Tryz.ntmps66;go_upto_region 1 with fail;have b0:=Blk.new w 104 Ay;have f0:Fr NoB w (w.alloc (.cells Ay 104)):=(Fr.refl _ _).alloc _;have hs0:(w.alloc (.cells Ay 104)).heap.size=w.heap.size+1:=by simp
 generalize w.alloc (.cells Ay 104)=W at *;have b1:=Blk.new W 104 (kndC (.slice none 0 0) (.slice none 0 0));rw [hs0] at b1;have p1:Fr NoB W (W.alloc (.cells (kndC (.slice none 0 0) (.slice none 0 0)) 104)):=(Fr.refl _ _).alloc _;go_upto_region 2 with fail;have YX:=p1.blk b0 (fun e=>e);have F1:=f0.trans p1;clear dw b0 f0 p1;generalize W.alloc (.cells (kndC (.slice none 0 0) (.slice none 0 0)) 104)=W1 at *;have HP:=hd' (xX W1);go_upto_region 9 with (go_at_call 111;((with_reducible refine HP.out.mono ?_);rintro er wP ⟨vP,rfl,uP,fP⟩));have bP:=fP.blk b1 (fun e=>e);have b0P:=fP.blk YX (fun e=>e);have FP:=F1.trans fP;have Y0:Hid (∀ u,Fr (Only (w.heap.size+1)) wP u->dU .u64 u vP oR):=hd' (fun u f=>by
  have h0:u.ownsRow W1.heap.size 113 1 vP oR.length (oR.map (dV .u64)):=f.row uP (fun g hg e=>by
   have h1:=(World.ownsRow.lt uP g hg).1;have h2:g=(w.heap.size+1):=e;have h3:=b1.lt;omega)
  exact U6.num h0 (fun q hq=>by have:=(qY q hq).2;omega) (by decide))
 have hgP:=bP.lt;have hgW:w.heap.size<=(w.heap.size+1):=by omega
 have hg0:w.heap.size≠(w.heap.size+1):=by omega
 have IE:=hd' G4;obtain ⟨aP,cP,rfl⟩:=(Y0.out wP (Fr.refl _ _)).sl;have WE:oR.length=80:=rfl;rw [WE] at Y0 ⊢;clear WE HP uP fP b1 YX F1 hs0;go_wp2_with fail;go_loopw [7] (fun v7 wr=>∃ (i:Nat) (vK:Value),i<=64/\v7=.int .i64 i/\Blk wr (w.heap.size+1) 104 (kndC vK (.slice none 0 0))/\U6 wP.heap.size wr vK (KL.take i)/\Fr (Only (w.heap.size+1)) wP wr) (fun v7 _=>64 - (intOf v7).toNat)
 case atStart=>exact ⟨0,_,by omega,rfl,bP,World.ownsRow_nil _ _ _ _,Fr.refl _ _⟩
 case round=>
  clear bP;obtain ⟨i,vK,hi,rfl,hb,hu,hf⟩:=hrel;obtain ⟨w4,hw4⟩:∃ x,x=wr:=⟨_,rfl⟩;subst hw4;by_cases hlt:i<64
  ·have k0:(0:Int)<=i:=by omega
   have k1:(i:Int)<64:=by omega
   have k2:(i:Int)<80:=by omega
   have ewr:IntKind.i64.wrap (i:Int)=(i:Int):=by rw [IntKind.wrap_i64];omega
   obtain ⟨c0,c1,c15,Y1,z15,z16⟩:=ml hb;obtain ⟨g,o,rfl,hlc,hcell⟩:=(Y0.out w4 hf).at_ (Fr.refl _ _) (by decide);have Lg:i<oR.length:=by rw [show oR.length=80 from rfl];omega
   have d0:=hcell i Lg;have hps:=IE.out i;have Uy:Hid (KL.take (i+1)=KL.take i++[nh (oR.getD i 0) 3 % 4294967296]):=hd' (lW _ 64 i hlt);have jU:(KL.take i).length<=64:=by rw [List.length_take];omega
   have HB:=hd' hb;have HU:=hd' hu;have HF:=hd' hf;have hwr:=hf.size;clear hcell hb hu hf Lg;generalize oR.getD i 0=p at *;generalize KL.take i=kl at *;have HR:Hid (∀ u,Calls Tryz.prog 112 #[.int .u64 p,.int .i64 3,.int .i64 32] u fun e w'=>e=.returned (dV .u64 (nh p 3 % 4294967296))/\Fr NoB u w'):=hd' (fun u:World=>sJ p 3 u hps (by omega));generalize nh p 3 % 4294967296=rk at *;go_wp2_with fail;go_region_law (first|(refine EA (by rfl) _ _ (by rfl) wP.heap.size vK kl (by rfl) uA w5.heap.size rk (by rfl) (xY w5 _) (by omega) (by simp<;>omega) ?_;intro v6 w6 qu Az;obtain ⟨a6,c6,rfl⟩:∃ a c,v6=.slice a (kl.length+1) c:=(by obtain ⟨a,c,h⟩:=Qj qu;exact ⟨a,c,by simpa using h⟩);have F6:=FA.grown Az (fun j hj hl=>absurd (World.ownsRow.lt uA j hj).1 (by omega));have B6:=(Az.block (w.heap.size+1) bA.lt (fun e=>absurd (World.ownsRow.lt uA _ e.symm).1 (by omega))).trans bA;have e15:w6.cell? ⟨w.heap.size+1,15,none⟩=some vK:=(Blk.cell B6 15).trans rfl;have y15:=Blk.frozen B6 15)|(go_simp;go_at_call 112;((with_reducible refine (HR.out _).mono ?_);rintro er w5 ⟨rfl,f5⟩;have F5:=(HF.out.drew).andThen f5 (fun _ _ e=>e.elim);have FA:=F5.alloc (.cells #[.int .u64 (rk:Int)] 113);have uA:=((f5.alloc (.cells #[.int .u64 (rk:Int)] 113)).row (World.ownsRow.drew HU.out) (fun _ _ e=>e));have bA:=(f5.alloc (.cells #[.int .u64 (rk:Int)] 113)).blk (HB.out.drew) (fun e=>e);have abO:=F5.size;have a15:(w5.alloc (.cells #[.int .u64 (rk:Int)] 113)).cell? ⟨w.heap.size+1,15,none⟩=some vK:=(bA.cell 15).trans rfl;have m15:=(f5.blk (HB.out.drew) (fun e=>e)).cell 15;have m0:=(f5.blk (HB.out.drew) (fun e=>e)).cell 0)));all_goals
    go_wp2_with fail;go_roundw
    case rel=>exact ⟨i+1,_,by omega,by simp,Blk.aS B6 15 _,by rw [Uy.out];exact U6.far qu (by omega) _,F6.only _⟩
    case measure=>(simp [intOf]<;>omega)
  ·have HI9:Hid (i=64):=hd' (by omega);have k9:¬ (i:Int)<64:=by omega
   have Ow:Hid (KL.take i=KL):=hd' (by rw [HI9.out];rfl);rw [Ow.out] at hu;obtain ⟨wK,hwK⟩:∃ x,x=w4:=⟨_,rfl⟩;subst hwK;obtain ⟨vA,hvA⟩:∃ x,x=vK:=⟨_,rfl⟩;subst hvA;have HUK:=hd' hu;have HFK:=hd' hf;have bP:=hb;have hgK:=bP.lt;have ae9:=hf.size;obtain ⟨c0,c1,c15,Y1,z15,z16⟩:=ml hb;clear hu hf hb hlt;go_wp2_with fail;go_loopw [8] (fun v8 wr=>∃ (i:Nat) (vK:Value),i<=8/\v8=.int .i64 i/\Blk wr (w.heap.size+1) 104 (kndC vA vK)/\U6 wK.heap.size wr vK (FL.take i)/\Fr (Only (w.heap.size+1)) wK wr) (fun v8 _=>8 - (intOf v8).toNat)
   case atStart=>exact ⟨0,_,by omega,rfl,bP,World.ownsRow_nil _ _ _ _,Fr.refl _ _⟩
   case round=>
    clear bP;obtain ⟨i,vK,hi,rfl,hb,hu,hf⟩:=hrel;obtain ⟨w4,hw4⟩:∃ x,x=wr:=⟨_,rfl⟩;subst hw4;by_cases hlt:i<8
    ·(have k0:(0:Int)<=i:=by omega);(have k1:(i:Int)<8:=by omega);(have k2:(i:Int)<80:=by omega);(have ewr:IntKind.i64.wrap (i:Int)=(i:Int):=by rw [IntKind.wrap_i64];omega);(have s0:(0:Int)+(i:Int)=(i:Int):=by omega);obtain ⟨c0,c1,c15,Y1,z15,z16⟩:=ml hb;obtain ⟨g,o,rfl,hlc,hcell⟩:=(Y0.out w4 (HFK.out.trans hf)).at_ (Fr.refl _ _) (by decide);(have Lg:i<oR.length:=by rw [show oR.length=80 from rfl];omega);have d0:=hcell i Lg;have hps:=IE.out i;have Uy:Hid (FL.take (i+1)=FL.take i++[nh (oR.getD i 0) 2 % 4294967296]):=hd' (lW _ 8 i hlt);(have jU:(FL.take i).length<=8:=by rw [List.length_take];omega);have HB:=hd' hb;have HU:=hd' hu;have HF:=hd' hf;have hwr:=hf.size;clear hcell hb hu hf Lg;generalize oR.getD i 0=p at *;generalize FL.take i=kl at *;have HR:Hid (∀ u,Calls Tryz.prog 112 #[.int .u64 p,.int .i64 2,.int .i64 32] u fun e w'=>e=.returned (dV .u64 (nh p 2 % 4294967296))/\Fr NoB u w'):=hd' (fun u:World=>sJ p 2 u hps (by omega));generalize nh p 2 % 4294967296=rk at *;go_wp2_with fail;go_region_law (first|(refine EA (by rfl) _ _ (by rfl) wK.heap.size vK kl (by rfl) uA w5.heap.size rk (by rfl) (xY w5 _) (by omega) (by simp<;>omega) ?_;intro v6 w6 qu Az;obtain ⟨a6,c6,rfl⟩:∃ a c,v6=.slice a (kl.length+1) c:=(by obtain ⟨a,c,h⟩:=Qj qu;exact ⟨a,c,by simpa using h⟩);have F6:=FA.grown Az (fun j hj hl=>absurd (World.ownsRow.lt uA j hj).1 (by omega));have B6:=(Az.block (w.heap.size+1) bA.lt (fun e=>absurd (World.ownsRow.lt uA _ e.symm).1 (by omega))).trans bA;have e15:w6.cell? ⟨w.heap.size+1,16,none⟩=some vK:=(Blk.cell B6 16).trans rfl;have y15:=Blk.frozen B6 16)|(go_simp;go_at_call 112;((with_reducible refine (HR.out _).mono ?_);rintro er w5 ⟨rfl,f5⟩;have F5:=(HF.out.drew).andThen f5 (fun _ _ e=>e.elim);have FA:=F5.alloc (.cells #[.int .u64 (rk:Int)] 113);have uA:=((f5.alloc (.cells #[.int .u64 (rk:Int)] 113)).row (World.ownsRow.drew HU.out) (fun _ _ e=>e));have bA:=(f5.alloc (.cells #[.int .u64 (rk:Int)] 113)).blk (HB.out.drew) (fun e=>e);have abO:=F5.size;have a15:(w5.alloc (.cells #[.int .u64 (rk:Int)] 113)).cell? ⟨w.heap.size+1,16,none⟩=some vK:=(bA.cell 16).trans rfl;have m15:=(f5.blk (HB.out.drew) (fun e=>e)).cell 16;have m0:=(f5.blk (HB.out.drew) (fun e=>e)).cell 0)));all_goals
      go_wp2_with fail;go_roundw
      case rel=>exact ⟨i+1,_,by omega,by simp,Blk.aS B6 16 _,by rw [Uy.out];exact U6.far qu (by omega) _,F6.only _⟩
      case measure=>(simp [intOf]<;>omega)
    ·have HI9:Hid (i=8):=hd' (by omega);(have k9:¬ (i:Int)<8:=by omega);have HFL:Hid (FL.take i=FL):=hd' (by rw [HI9.out];rfl);rw [HFL.out] at hu;have hKW:=HFK.out.trans hf;have uA2:U6 wK.heap.size w4 vK FL:=hu;have uK2:w4.ownsRow wP.heap.size 113 1 vA KL.length (KL.map (dV .u64)):=hf.row HUK.out (fun j hj e=>by have h1:=(World.ownsRow.lt HUK.out j hj).1;have h2:j=w.heap.size+1:=e;omega);have bR:=hKW.blk b0P (fun (e:w.heap.size=w.heap.size+1)=>by omega);have hoK:=jJ HUK.out;have hoF:=jJ uA2;(have za:((kndC vA vK).all (·.oneCell'))=true:=by simp [hoK,hoF,show ∀ n,(Value.int .i64 n).oneCell'=true from fun _=>rfl]);have HFE:=hd' (And.intro uA2 (And.intro uK2 (And.intro hKW (And.intro hf bR))));have ajn:=HFK.out.size;clear hu uA2 uK2 hKW;go_wp2_with (first|(refine wpList_load_row rfl 104 _ rfl (w.heap.size+1) rfl 104 _ _ _ hb Tryz.underlying104 rfl jY ?_)|(refine wpList_store_row rfl 104 _ _ rfl w.heap.size (kndC vA vK) rfl rfl 104 _ bR jY rfl za ?_));obtain ⟨g1,g2,g3,g4,g5⟩:=HFE.out;have fS:Fr (Only w.heap.size) w4 (w4.setRow w.heap.size (kndC vA vK)):=(Fr.refl _ w4).setRow w.heap.size _ (Or.inr rfl);refine bodyPost_ret (v:=.tuple #[.agg (kndC vA vK),.bool true]) (Le rfl _ _ w.heap.size (kndC vA vK) rfl _ rfl rfl (bR.setRow _)) rfl ⟨vA,vK,rfl,?_,?_,?_⟩
     ·exact World.ownsRow.mono (fS.row g2 (fun j hj e=>by have h1:=(World.ownsRow.lt g2 j hj).1;have h2:j=w.heap.size:=e;omega)) (by omega)
     ·exact World.ownsRow.mono (fS.row g1 (fun j hj e=>by have h1:=(World.ownsRow.lt g1 j hj).1;have h2:j=w.heap.size:=e;omega)) (by omega)
     ·exact (FP.andThen g3 (fun j hj (e:j=w.heap.size+1)=>by omega)).setRow w.heap.size _ (Or.inl (Nat.le_refl _))
end Go.Proofs.YtbifjamddbpcjaaGreatDoor
