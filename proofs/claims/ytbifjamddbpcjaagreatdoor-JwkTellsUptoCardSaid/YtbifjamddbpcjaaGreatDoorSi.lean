/- The document's sums (layer 2): Kind.Sum's memory. -/
import Derived.Test.YtbifjamddbpcjaaGreatDoorSg
import Derived.Laws.IdiomCopy
import Derived.Deep.MidRow
namespace Go.Proofs.YtbifjamddbpcjaaGreatDoor
open Go.RowKit
def BX (lo:Nat) (w:World) (v:Value) (s:Bs):Prop:=
 ∃ g cap,v=.slice (some ⟨g,0,none⟩) s.length cap/\lo<=g/\g<w.heap.size/\s.length<=cap/\cap<=maxLen/\(∀ (i:Nat) u,(bC s)[i]?=some u->w.cell? ⟨g,i,none⟩=some u) /\
  (∀ i,i<cap->(w.cell? ⟨g,i,none⟩).isSome=true/\w.frozen? ⟨g,i,none⟩=false)
theorem BX.fr {lo:Nat} {w w':World} {v:Value} {s:Bs} (h:BX lo w v s) (f:Fr NoB w w'):BX lo w' v s:=by
 obtain ⟨g,cap,h1,h2,h3,h4,h5,h6,h7⟩:=h;refine ⟨g,cap,h1,h2,Nat.lt_of_lt_of_le h3 f.size,h4,h5,fun i u hu => ?_,fun i hi => ?_⟩
 ·rw [f.cell (p:=⟨g,i,none⟩) h3 (fun e=>e)];exact h6 i u hu
 ·rw [f.cell (p:=⟨g,i,none⟩) h3 (fun e=>e),f.frozen (p:=⟨g,i,none⟩) h3 (fun e=>e)];exact h7 i hi
theorem BX.only {lo b:Nat} {w w':World} {v:Value} {s:Bs} (h:BX lo w v s) (f:Fr (Only b) w w') (hb:∀ g n c,v=.slice (some ⟨g,0,none⟩) n c->g≠b):BX lo w' v s:=by
 obtain ⟨g,cap,h1,h2,h3,h4,h5,h6,h7⟩:=h;have hg:=hb g _ _ h1;refine ⟨g,cap,h1,h2,Nat.lt_of_lt_of_le h3 f.size,h4,h5,fun i u hu => ?_,fun i hi => ?_⟩
 ·rw [f.cell (p:=⟨g,i,none⟩) h3 hg];exact h6 i u hu
 ·rw [f.cell (p:=⟨g,i,none⟩) h3 hg,f.frozen (p:=⟨g,i,none⟩) h3 hg];exact h7 i hi
theorem BX.Tv {lo:Nat} {w:World} {g n cap:Nat} {cur:Array Value} {s:Bs} (hh:w.heap[g]?=some (.cells cur 5 (0,0))) (cN:lo<=g) (hn:n=s.length) (hc:n<=cap) (hm:cap<=maxLen) (hs:cur.size=cap) (ht:cur.toList.take n=bC s):BX lo w (.slice (some ⟨g,0,none⟩) n cap) s:=by
 subst hn;refine ⟨g,cap,rfl,cN,lt_of_block hh,hc,hm,fun i u hu => ?_,fun i hi => ?_⟩
 ·rw [cell_of_row w g i cur 5 (0,0) hh];rw [<- ht,List.getElem?_take] at hu;split at hu
  ·simpa using hu
  ·cases hu
 ·rw [cell_of_row w g i cur 5 (0,0) hh];refine ⟨?_,by simp [World.frozen?,hh]⟩;rw [Array.getElem?_eq_getElem (by omega)];rfl
theorem BX.conv (w:World) (s:Bs) (hs:s.length<=maxLen):BX w.heap.size (Lib.bytesWorld w 5 ⟨s.toArray⟩) (.slice (some ⟨w.heap.size,0,none⟩) s.length (grownCap w s.length 0 5)) s:=by
 have hz:(⟨s.toArray⟩:ByteArray).size=s.length:=by show s.toArray.size=_;simp
 have Bn:=grownCap_ge w s.length 0 5;have hcs:(Lib.bytesCells w 5 ⟨s.toArray⟩).size=grownCap w s.length 0 5:=by
  unfold Lib.bytesCells;rw [hz];simp;omega
 have hh:=Lib.bytesWorld_at_new w 5 ⟨s.toArray⟩;rw [hcs] at hh;refine ⟨w.heap.size,_,rfl,Nat.le_refl _,by rw [Lib.bytesWorld_size];omega,Bn,grownCap_le_maxLen w _ 0 _ hs,fun i u hu => ?_,fun i hi => ?_⟩
 ·have hi:i<s.length:=by
   have:=(List.getElem?_eq_some_iff.1 hu).1;simpa [bC] using this
  rw [Lib.bytesWorld_cell w 5 ⟨s.toArray⟩ i (by rw [hz];exact hi)];rw [<- hu];simp [bC,List.getD,hi]
 ·rw [cell_of_row _ _ i _ _ _ hh];refine ⟨?_,?_⟩
  ·rw [Array.getElem?_eq_getElem (by omega)];rfl
  ·simp [World.frozen?,hh];omega
theorem qv (b:Nat):∀ (vs:List Value) (o:Nat) (w:World),Fr (Only b) w (w.setCells b o vs)
 | [],_,w=>Fr.refl _ w
 | v::r,o,w=>((Fr.refl (Only b) w).only v).trans (qv b r (o+1) _)
theorem yj (lo:Nat) (ty:TypeId) (w:World) (v:Value) (s:Bs) (h:BX lo w v s) (a:Addr) (m c:Nat) (t:Bs) (hm:t.length=m) (ht:∀ (j:Nat) u,(bC t)[j]?=some u->w.cell? (a.add j)=some u) (hsz:s.length+t.length<=140737488355328) (cN:lo<=w.heap.size) :
  ∃ v' w',(Builtin.append_ #[81,81] ty #[v,.slice (some a) m c]).run Tryz.prog w=.ok v' w'/\BX lo w' v' (s++t)/\w.grownBy w' v.ownBlock:=by
 obtain ⟨g,cap,rfl,h2,h3,h4,h5,h6,h7⟩:=h;obtain ⟨i0,jv,hz0,hz1,hz2⟩:=info_parts cO;have IK:Tryz.prog.underlying 81=some (.slice 5):=Tryz.underlying81;subst hm;have hlt:(bC t).length=t.length:=by simp [bC]
 have hls:(bC s).length=s.length:=by simp [bC]
 by_cases hroom:s.length+t.length<=cap
 ·have hf:=run_firstCells_some (P:=Tryz.prog) w 1 t.length a t.length c (bC t) (by rw [hlt,Nat.mul_one]) (fun j u hu=>ht j u hu);have cj:=run_storeCells_cells (P:=Tryz.prog) g s.length (bC t) 0 w (fun j hj=>(h7 _ (by omega)).1) (fun j hj=>(h7 _ (by omega)).2) (np t);simp only [Nat.add_zero] at cj;have f:=qv g (bC t) s.length w;have NP:=fun j (hj:j<(bC t).length)=>(h7 (s.length+j) (by omega)).1;refine ⟨.slice (some ⟨g,0,none⟩) (s.length+t.length) cap,w.setCells g s.length (bC t),?_,?_,⟨f.os,f.tape,f.output,f.size,fun k hk hne=>f.block k hk (fun e=>hne (by rw [show k=g from e];rfl))⟩⟩
  ·simp [Builtin.append_,run_underlying IK,sizeOf,typeInfo,jv,hz1,Builtin.lenOf,hroom,hf,Addr.add_lit,cj]
  ·refine ⟨g,cap,by rw [List.length_append],h2,Nat.lt_of_lt_of_le h3 f.size,by rw [List.length_append];exact hroom,h5,fun i u hu => ?_,fun i hi=>⟨World.isSome_setCells g _ _ _ _ (h7 i hi).1,by rw [World.frozen?_setCells];exact (h7 i hi).2⟩⟩;have e:bC (s++t)=bC s++bC t:=by simp [bC]
   rw [e] at hu;by_cases hi:i<s.length
   ·rw [List.getElem?_append_left (by omega)] at hu;rw [World.cell?_setCells_out g _ _ _ _ (fun _ _=>Or.inl hi)];exact h6 i u hu
   ·rw [List.getElem?_append_right (by omega),hls] at hu;have hj:=(List.getElem?_eq_some_iff.1 hu).1;have h8:=World.cell?_setCells_in g (bC t) s.length w NP (i - s.length) hj;rw [show s.length+(i - s.length)=i by omega] at h8;rw [h8,<- hu,List.getElem?_eq_getElem hj]
 ·have hr:=run_append_grow (P:=Tryz.prog) w 81 ty 5 i0 (.int .u8 0) IK jv hz0 ⟨g,0,none⟩ s.length cap (bC s) (by rw [hz1,hls,Nat.mul_one]) (fun j u hu=>by rw [bT,Nat.zero_add];exact h6 j u hu) a t.length c (bC t) (by rw [hz1,hlt,Nat.mul_one]) (fun j u hu=>ht j u hu) (by omega) (by omega) (growslice_fits (by omega) (by rw [hz2];omega));refine ⟨_,_,hr,?_,⟨rfl,rfl,rfl,by simp,fun k hk _=>Below.heap_alloc w.drew _ k hk⟩⟩;have Bn:=grownCap_ge w (s.length+t.length) cap 5;refine BX.Tv (heap_alloc_new w.drew _) cN (by simp) (by simpa using Bn) (grownCap_le_maxLen w _ _ _ (by unfold maxLen;omega)) ?_ ?_
  ·simp only [Array.size_append,List.size_toArray,size_zeroCells,hlt,hls];have:(Value.int .u8 0).cells.size=1:=rfl;rw [this];omega
  ·simp only [Array.toList_append,List.append_assoc];rw [<- List.append_assoc];have e:bC (s++t)=bC s++bC t:=by simp [bC]
   rw [e];exact List.take_left' (by simp [bC])
theorem De {ops:Array Oper} {rest:List Oper} {o:Oper} {a:Act} {Q:Exit->Act->World->Prop} {w:World} (hgd:o.guard=none) (sl x:Operand)
  (ho:o.op=.call { callee:=.builtin .append,args := #[sl,x],argTypes := #[81,81] }) (lo:Nat) (v:Value) (s:Bs) (hs:a.eval sl=v) (hown:BX lo w v s) (g m c:Nat) (t:Bs) (hx:a.eval x=.slice (some ⟨g,0,none⟩) m c) (hm:t.length=m)
  (hc:∀ (i:Nat) u,(bC t)[i]?=some u->w.cell? ⟨g,i,none⟩=some u)
  (hsz:s.length+t.length<=140737488355328) (cN:lo<=w.heap.size) (h:∀ v' w',BX lo w' v' (s++t)->w.grownBy w' v.ownBlock->wpList Tryz.prog ops Q rest (a.put o.dst v') w'):wpList Tryz.prog ops Q (o::rest) a w:=
 wpList_plain hgd fun _ hK=>by
  obtain ⟨v',w',hr,h2,h3⟩:=yj lo o.type w v s hown ⟨g,0,none⟩ m c t hm (fun j u hu=>by rw [bT,Nat.zero_add];exact hc j u hu) hsz cN;unfold Oper.wp execOp;simp only [ho,resolve,invoke,builtin,Sem.run_bind,Sem.run_pure,Result.andThen_ok,List.map_toArray,List.map_cons,List.map_nil,hs,hx,hr];exact hK _ _ (h v' w' h2 h3)
theorem BX.lt {lo:Nat} {w:World} {v:Value} {s:Bs} (h:BX lo w v s) {g:Nat} (hg:v.ownBlock=some g):lo<=g/\g<w.heap.size:=by
 obtain ⟨g',cap,rfl,h2,h3,-⟩:=h;have e:g'=g:=by simpa [Value.ownBlock] using hg
 subst e;exact ⟨h2,h3⟩
theorem BX.grown {lo:Nat} {w0 w w':World} {v:Value} {s:Bs} (h:BX lo w v s) (f:Fr NoB w0 w) (hg:w.grownBy w' v.ownBlock) (cN:w0.heap.size<=lo):Fr NoB w0 w':=
 f.grown hg (fun j hj hlt=>absurd (h.lt hj).1 (by omega))
theorem BX.sl {lo:Nat} {w:World} {v:Value} {s:Bs} (h:BX lo w v s):∃ g c,v=.slice (some ⟨g,0,none⟩) s.length c/\lo<=g/\g<w.heap.size/\∀ j,j<s.length->w.cell? ⟨g,j,none⟩=some (.int .u8 ((s.getD j 0).toNat:Int)):=by
 obtain ⟨g,cap,h1,h2,h3,h4,h5,h6,h7⟩:=h;exact ⟨g,cap,h1,h2,h3,fun j hj=>h6 j _ (by simp [bC,List.getD,hj])⟩
end Go.Proofs.YtbifjamddbpcjaaGreatDoor
namespace Go.Proofs.YtbifjamddbpcjaaGreatDoor
open Go.RowKit
theorem RO (P:Bs) (k j:Nat) (hj:j<64) (h:64*k+64<=P.length):((P.drop (64*k)).take 64).getD j 0=P.getD (64*k+j) 0:=by
 have h1:j<((P.drop (64*k)).take 64).length:=by rw [List.length_take,List.length_drop];omega
 rw [List.getD_eq_getElem?_getD,List.getD_eq_getElem?_getD,List.getElem?_eq_getElem h1,List.getElem_take,List.getElem_drop,List.getElem?_eq_getElem (by omega)]
structure KM (w:World) (a b:Value) (gB gS:Nat) (P:Bs) (st:List Nat) (u:World):Prop where
 k:Blk u w.heap.size 104 (kndC a b)
 p:∀ j,j<P.length->u.cell? ⟨gB,j,none⟩=some (.int .u8 ((P.getD j 0).toNat:Int))
 s:∀ j,j<8->u.cell? ⟨gS,j,none⟩=some (dV .u64 (st.getD j 0))/\u.frozen? ⟨gS,j,none⟩=false
 l:st.length=8
 b0:w.heap.size<gB
 s0:w.heap.size<gS
 b1:gB<u.heap.size
 s1:gS<u.heap.size
 ne:gB≠gS
 fr:Fr NoB w u
section
variable {w u u':World} {a b:Value} {gB gS:Nat} {P:Bs} {st L V:List Nat}
theorem KM.step {g:Nat} (h:KM w a b gB gS P st u) (f:Fr (Only g) u u') (h0:w.heap.size<g) (hb:gB≠g) (hs:gS≠g):KM w a b gB gS P st u':=
 ⟨f.blk h.k (fun e=>by have e':w.heap.size=g:=e;omega),fun j hj=>(f.cell (p:=⟨gB,j,none⟩) h.b1 hb).trans (h.p j hj),fun j hj=>⟨(f.cell (p:=⟨gS,j,none⟩) h.s1 hs).trans (h.s j hj).1,(f.frozen (p:=⟨gS,j,none⟩) h.s1 hs).trans (h.s j hj).2⟩,h.l,h.b0,h.s0,
  Nat.lt_of_lt_of_le h.b1 f.size,Nat.lt_of_lt_of_le h.s1 f.size,h.ne,h.fr.andThen f (fun j hj e=>by have e':j=g:=e;omega)⟩
theorem KM.cT (h:KM w a b gB gS P st u) (f:Fr NoB u u'):KM w a b gB gS P st u':=by
 have hk:=h.k.lt;exact h.step (g:=w.heap.size+gB+gS+1) (f.mono (fun _ _ e=>e.elim)) (by omega) (by omega) (by omega)
theorem KM.set (h:KM w a b gB gS P st u) (i x:Nat) (hi:i<8):KM w a b gB gS P (st.set i x) (u.setCell ⟨gS,i,none⟩ (dV .u64 x)):=by
 have f:Fr (Only gS) u (u.setCell ⟨gS,i,none⟩ (dV .u64 x)):=(Fr.refl _ u).only _;have hs0:=h.s0;have hne:=h.ne;refine ⟨f.blk h.k (fun e=>by have e':w.heap.size=gS:=e;omega),fun j hj=>(f.cell (p:=⟨gB,j,none⟩) h.b1 hne).trans (h.p j hj),fun j hj=>⟨?_,by rw [World.frozen?_setCell];exact (h.s j hj).2⟩,by rw [List.length_set];exact h.l,h.b0,h.s0,
  Nat.lt_of_lt_of_le h.b1 f.size,Nat.lt_of_lt_of_le h.s1 f.size,h.ne,h.fr.setCell_new (p:=⟨gS,i,none⟩) (Nat.le_of_lt hs0) _⟩
 by_cases e:j=i
 ·subst e;rw [World.cell?_setCell_same _ _ _ (h.s j hj).1,fQ (by rw [h.l];exact hj)]
 ·rw [World.cell?_setCell_other _ _ _ _ (fun e2=>e (by simpa using e2.symm)),getD_set_ne (fun e2=>e e2.symm)];exact (h.s j hj).1
structure KW (w:World) (a b:Value) (gB gS gW:Nat) (P:Bs) (st L:List Nat) (u:World):Prop where
 m:KM w a b gB gS P st u
 c:∀ j,j<64->u.cell? ⟨gW,j,none⟩=some (dV .u64 (L.getD j 0))
 z:∀ j,j<64->u.frozen? ⟨gW,j,none⟩=false
 l:L.length=64
 w0:w.heap.size<gW
 wb:gB≠gW
 ws:gS≠gW
 w1:gW<u.heap.size
theorem KW.start (h:KM w a b gB gS P st u) (hL:L.length=64):KW w a b gB gS u.heap.size P st L (u.alloc (.cells ((L.map (dV .u64)).toArray) 113)):=by
 have g0:=Blk.new u 113 ((L.map (dV .u64)).toArray);have h1:=h.b1;have h2:=h.s1;have h3:=h.k.lt;refine ⟨h.cT ((Fr.refl _ _).alloc _),fun j hj=>iI g0 (by omega),fun j _=>g0.frozen j,hL,h3,by omega,by omega,by simp⟩
theorem KW.cT {gW:Nat} (h:KW w a b gB gS gW P st L u) (f:Fr NoB u u'):KW w a b gB gS gW P st L u':=
 ⟨h.m.cT f,fun j hj=>(f.cell (p:=⟨gW,j,none⟩) h.w1 (fun e=>e)).trans (h.c j hj),fun j hj=>(f.frozen (p:=⟨gW,j,none⟩) h.w1 (fun e=>e)).trans (h.z j hj),h.l,h.w0,h.wb,h.ws,Nat.lt_of_lt_of_le h.w1 f.size⟩
theorem KW.word {gW:Nat} (h:KW w a b gB gS gW P st L u) (i x:Nat) (hi:i<64):KW w a b gB gS gW P st (L.set i x) (u.setCell ⟨gW,i,none⟩ (dV .u64 x)):=by
 have f:Fr (Only gW) u (u.setCell ⟨gW,i,none⟩ (dV .u64 x)):=(Fr.refl _ u).only _;refine ⟨h.m.step f h.w0 h.wb h.ws,fun j hj => ?_,fun j hj=>by rw [World.frozen?_setCell];exact h.z j hj,by rw [List.length_set];exact h.l,h.w0,h.wb,h.ws,Nat.lt_of_lt_of_le h.w1 f.size⟩;by_cases e:j=i
 ·subst e;rw [World.cell?_setCell_same _ _ _ (h.c j hj),fQ (by rw [h.l];exact hj)]
 ·rw [World.cell?_setCell_other _ _ _ _ (fun e2=>e (by simpa using e2.symm)),getD_set_ne (fun e2=>e e2.symm)];exact h.c j hj
def KX (w:World) (a b:Value) (gB gS gW:Nat) (P:Bs) (st L:List Nat) (i:Nat) (u:World):Prop:=∃ x,KW w a b gB gS gW P st (L.set i x) u
theorem KX.of {gW i:Nat} (h:KW w a b gB gS gW P st L u):KX w a b gB gS gW P st L i u:=⟨L.getD i 0,by
 have e:L.set i (L.getD i 0)=L:=by
  rcases Nat.lt_or_ge i L.length with hi|hi
  ·rw [List.getD_eq_getElem?_getD,List.getElem?_eq_getElem hi];exact List.set_getElem_self hi
  ·exact List.set_eq_of_length_le hi
 rw [e];exact h⟩
theorem KX.cT {gW i:Nat} (h:KX w a b gB gS gW P st L i u) (f:Fr NoB u u'):KX w a b gB gS gW P st L i u':=h.imp fun _ h=>h.cT f
theorem KX.put {gW i:Nat} (h:KX w a b gB gS gW P st L i u) (hi:i<64) (x:Nat):KX w a b gB gS gW P st L i (u.setCell ⟨gW,i,none⟩ (dV .u64 x)):=by
 obtain ⟨y,h⟩:=h;have:=h.word i x hi;rw [List.set_set] at this;exact ⟨x,this⟩
theorem KX.done {gW i:Nat} (h:KX w a b gB gS gW P st L i u) (hi:i<64) (x:Nat):KW w a b gB gS gW P st (L.set i x) (u.setCell ⟨gW,i,none⟩ (dV .u64 x)):=by
 obtain ⟨y,h⟩:=h;have:=h.word i x hi;rwa [List.set_set] at this
theorem KX.at_ {gW i j:Nat} (h:KX w a b gB gS gW P st L i u) (hj:j<64) (hne:i≠j):u.cell? ⟨gW,j,none⟩=some (dV .u64 (L.getD j 0)):=by
 obtain ⟨y,h⟩:=h;rw [h.c j hj,getD_set_ne hne]
theorem KX.here {gW i:Nat} (h:KX w a b gB gS gW P st L i u) (hi:i<64):(∃ x,u.cell? ⟨gW,i,none⟩=some x)/\u.frozen? ⟨gW,i,none⟩=false:=by
 obtain ⟨y,h⟩:=h;exact ⟨⟨_,h.c i hi⟩,h.z i hi⟩
end
theorem RP (w:World) (s:ByteArray):Fr NoB w (Lib.bytesWorld w 5 s):=
 ⟨rfl,rfl,rfl,by rw [Lib.bytesWorld_size];omega,fun k hk _=>Lib.bytesWorld_at_old w _ s k hk⟩
theorem Ek {lo:Nat} {w:World} {v:Value} {l:List Nat} (h:U6 lo w v l) (hn:0<l.length):∃ g c,v=.slice (some ⟨g,0,none⟩) l.length c/\lo<=g/\g<w.heap.size/\l.length<=c/\∀ j,j<l.length->w.cell? ⟨g,j,none⟩=some (dV .u64 (l.getD j 0))/\w.frozen? ⟨g,j,none⟩=false:=by
 have hc:=@World.ownsRow.cells _ _ _ _ _ _ _ h;rcases h.2 with ⟨e,h0⟩|⟨g,cap,cur,rfl,hg,hh,uI,_⟩
 ·omega
 ·refine ⟨g,cap,rfl,hg,lt_of_block hh,uI,fun j hj=>⟨?_,by simp [World.frozen?,hh]⟩⟩;have:=hc (g:=g) rfl j (dV .u64 (l.getD j 0)) (by rw [List.getElem?_map,List.getElem?_eq_getElem hj,List.getD_eq_getElem?_getD,List.getElem?_eq_getElem hj];rfl);rwa [bT,Nat.zero_add] at this
theorem Kf {ops:Array Oper} {rest:List Oper} {o:Oper} {a:Act} {Q:Exit->Act->World->Prop} {w:World} (hgd:o.guard=none) (sl x:Operand)
  (ho:o.op=.call { callee:=.builtin .append,args := #[sl,x],argTypes := #[102,102] }) (lo:Nat) (v:Value) (l:List Nat) (hs:a.eval sl=v) (hown:U6 lo w v l) (g m c:Nat) (t:List Nat) (hx:a.eval x=.slice (some ⟨g,0,none⟩) m c) (hm:t.length=m)
  (hc:∀ j,j<m->w.cell? ⟨g,j,none⟩=some (dV .u64 (t.getD j 0))) (hsz:l.length+t.length<=4398046511104) (cN:lo<=w.heap.size)
  (h:∀ v' w',U6 lo w' v' (l++t)->w.grownBy w' v.ownBlock->wpList Tryz.prog ops Q rest (a.put o.dst v') w'):wpList Tryz.prog ops Q (o::rest) a w:=by
 obtain ⟨i0,jv,hz0,hz1,hz2⟩:=info_parts lM;subst hm;refine wpList_append_own w hgd sl x 102 ho lo 113 i0 (.int .u64 0) 1 8 Tryz.underlying102 jv hz0 hz1 hz2 rfl (by decide) v l.length (l.map (dV .u64)) hs hown ⟨g,0,none⟩ t.length c (t.map (dV .u64)) hx (by simp) (fun j u hu => ?_) (fun u hu => ?_) (by unfold maxLen;omega) (by omega) cN (fun v' w' h1 h2 _=>h v' w' ?_ h2)
 ·have hj:j<t.length:=by simpa using (List.getElem?_eq_some_iff.1 hu).1
  rw [bT,Nat.zero_add,hc j hj,<- hu,List.getElem?_map,List.getElem?_eq_getElem hj,List.getD_eq_getElem?_getD,List.getElem?_eq_getElem hj];rfl
 ·obtain ⟨x,_,rfl⟩:=List.mem_map.1 hu;rfl
 ·unfold U6;simpa using h1
theorem RQ {l:List Nat} (h:l.length=8):∃ a b c d e f g k,l=[a,b,c,d,e,f,g,k]:=by
 match l,h with
 | [a,b,c,d,e,f,g,k],_=>exact ⟨a,b,c,d,e,f,g,k,rfl⟩
theorem zV (w:World) (a b c d e f g k:Nat):∀ j,j<8->(w.alloc (.cells #[.int .u64 (a:Int),.int .u64 (b:Int),.int .u64 (c:Int),.int .u64 (d:Int),.int .u64 (e:Int),.int .u64 (f:Int),.int .u64 (g:Int),.int .u64 (k:Int)] 113)).cell? ⟨w.heap.size,j,none⟩=some (dV .u64 ([a,b,c,d,e,f,g,k].getD j 0)):=by
 intro j hj;rw [World.cell?_alloc_mark]
 match j,hj with
 | 0,_|1,_|2,_|3,_|4,_|5,_|6,_|7,_=>rfl
theorem Od (e:Nat) (he:e<4294967296):(18446744073709551615 ^^^ e) % 4294967296=4294967295 ^^^ e:=by
 have h:=Nat.xor_mod_two_pow (a:=18446744073709551615) (b:=e) (n:=32);rw [Nat.mod_eq_of_lt (show e<2 ^ 32 from he)] at h;exact h
theorem Oe (e:Nat) (he:e<4294967296):bits .xor .u64 IntKind.u64.max (e:Int)=((18446744073709551615 ^^^ e:Nat):Int):=
 dB 18446744073709551615 e (by decide) (by omega)
def KY (w:World) (a b:Value) (gB gS gv:Nat) (P:Bs) (st V:List Nat) (q:Nat) (u:World):Prop:=(∃ x,KM w a b gB gS P (st.set q x) u)/\gv<u.heap.size/\∀ j,j<8->u.cell? ⟨gv,j,none⟩=some (dV .u64 (V.getD j 0))
section
variable {w u u':World} {a b:Value} {gB gS gv:Nat} {P:Bs} {st V:List Nat} {q:Nat}
theorem KY.of (h:KM w a b gB gS P st u) (hg:gv<u.heap.size) (hv:∀ j,j<8->u.cell? ⟨gv,j,none⟩=some (dV .u64 (V.getD j 0))):KY w a b gB gS gv P st V q u:=⟨⟨st.getD q 0,by
 have e:st.set q (st.getD q 0)=st:=by
  rcases Nat.lt_or_ge q st.length with hi|hi
  ·rw [List.getD_eq_getElem?_getD,List.getElem?_eq_getElem hi];exact List.set_getElem_self hi
  ·exact List.set_eq_of_length_le hi
 rw [e];exact h⟩,hg,hv⟩
theorem KY.cT (h:KY w a b gB gS gv P st V q u) (f:Fr NoB u u'):KY w a b gB gS gv P st V q u':=
 ⟨h.1.imp fun _ h=>h.cT f,Nat.lt_of_lt_of_le h.2.1 f.size,fun j hj=>(f.cell (p:=⟨gv,j,none⟩) h.2.1 (fun e=>e)).trans (h.2.2 j hj)⟩
theorem KY.put (h:KY w a b gB gS gv P st V q u) (hq:q<8) (hne:gS<gv) (x:Nat):KY w a b gB gS gv P st V q (u.setCell ⟨gS,q,none⟩ (dV .u64 x))/\KM w a b gB gS P (st.set q x) (u.setCell ⟨gS,q,none⟩ (dV .u64 x)):=by
 obtain ⟨⟨y,h1⟩,h2,h3⟩:=h;have f:Fr (Only gS) u (u.setCell ⟨gS,q,none⟩ (dV .u64 x)):=(Fr.refl _ u).only _;have h4:=h1.set q x hq;rw [List.set_set] at h4;exact ⟨⟨⟨x,h4⟩,Nat.lt_of_lt_of_le h2 f.size,fun j hj=>(f.cell (p:=⟨gv,j,none⟩) h2 (fun e=>by have e':gv=gS:=e;omega)).trans (h3 j hj)⟩,h4⟩
theorem KY.here (h:KY w a b gB gS gv P st V q u) (hq:q<8):(∃ x,u.cell? ⟨gS,q,none⟩=some x)/\u.frozen? ⟨gS,q,none⟩=false:=by
 obtain ⟨⟨y,h1⟩,-,-⟩:=h;exact ⟨⟨_,(h1.s q hq).1⟩,(h1.s q hq).2⟩
end
end Go.Proofs.YtbifjamddbpcjaaGreatDoor
