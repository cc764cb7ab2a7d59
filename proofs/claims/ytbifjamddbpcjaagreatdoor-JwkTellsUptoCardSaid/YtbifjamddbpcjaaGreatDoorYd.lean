/- Keys, the program's: object: a JSON object of members. -/
import Derived.Lib.AppendStr
import Derived.Deep.RegionLaw
import Derived.Laws.CopyRow
import Derived.Test.YtbifjamddbpcjaaGreatDoorEa
namespace Go.Proofs.YtbifjamddbpcjaaGreatDoor
open Go.RowKit
def SM (j:Jv):Prop:=∀ (va vb:Value) (w:World),aG (All w) w j va->aG (All w) w j vb->Calls Tryz.prog 14 #[va,vb] w fun e w'=>e=.returned (.bool true)/\Fr NoB w w'
theorem aG.form {S:Nat->Prop} {w:World} {j:Jv} {v:Value} (h:aG S w j v):∃ v0 v1 v2 v3 v4,v=.agg #[v0,v1,v2,v3,v4]/\(#[v0,v1,v2,v3,v4].all (·.oneCell'))=true:=by
 cases j with
 | mk k i t l ks=>
  have h0:=h;simp only [aG] at h;obtain ⟨lv,kv,rfl,_⟩:=h;exact ⟨_,_,_,_,_,rfl,dp h0.one⟩
theorem iM (u:World) (v0 v1 v2 v3 v4:Value):Fr NoB u ((u.alloc (.cells zj 31)).setRow u.heap.size #[v0,v1,v2,v3,v4])/\Blk ((u.alloc (.cells zj 31)).setRow u.heap.size #[v0,v1,v2,v3,v4]) u.heap.size 31 #[v0,v1,v2,v3,v4]:=
 ⟨((Fr.refl NoB u).alloc _).setRow u.heap.size _ (Or.inl (Nat.le_refl _)),(Blk.new u 31 zj).setRow _⟩
theorem Blk.five {w:World} {g:Nat} {v0 v1 v2 v3 v4:Value} (h:Blk w g 31 #[v0,v1,v2,v3,v4]):w.cell? ⟨g,0,none⟩=some v0/\w.cell? ⟨g,1,none⟩=some v1/\w.cell? ⟨g,2,none⟩=some v2/\w.cell? ⟨g,3,none⟩=some v3/\w.cell? ⟨g,4,none⟩=some v4:=
 ⟨(h.cell 0).trans rfl,(h.cell 1).trans rfl,(h.cell 2).trans rfl,(h.cell 3).trans rfl,(h.cell 4).trans rfl⟩
theorem kn.all {w u:World} {ks:List Bs} {v:Value} (h:kn (All w) w ks v) (f:Fr NoB w u):kn (All u) u ks v:=
 kn.mono (kn.fr h (fun g hg=>f.block g hg (fun e=>e))) (fun _ hg=>Nat.lt_of_lt_of_le hg f.size)
def JRows (lo:Nat) (w:World) (l:List Jv) (ks:List Bs) (lv kv:Value):Prop:=
 ∃ (cs:List Value) (S:Nat->Prop),w.ownsRow lo 31 5 lv l.length cs/\w.ownsRow lo 9 1 kv ks.length (ks.map sV)/\aq S w l cs /\
  (∀ g,S g->lo<=g/\g<w.heap.size/\lv.ownBlock≠some g/\kv.ownBlock≠some g)/\(∀ g,lv.ownBlock=some g->kv.ownBlock≠some g)
theorem JRows.nil (lo:Nat) (w:World):JRows lo w [] [] (.slice none 0 0) (.slice none 0 0):=
 ⟨[],fun _=>False,World.ownsRow_nil _ _ _ _,World.ownsRow_nil _ _ _ _,by simp [aq],fun _ h=>h.elim,fun _ h=>by simp [Value.ownBlock] at h⟩
theorem JRows.fr {T:Nat->Prop} {lo:Nat} {w w':World} {l:List Jv} {ks:List Bs} {lv kv:Value} (h:JRows lo w l ks lv kv) (f:Fr T w w') (hT:∀ g,lo<=g->¬ T g):JRows lo w' l ks lv kv:=by
 obtain ⟨cs,S,h1,h2,h3,h4,h5⟩:=h;refine ⟨cs,S,f.row h1 (fun g hg=>hT g (h1.lt g hg).1),f.row h2 (fun g hg=>hT g (h2.lt g hg).1),aq.fr (fun g hg=>f.block g (h4 g hg).2.1 (hT g (h4 g hg).1)) l cs h3,fun g hg => ?_,h5⟩;obtain ⟨a,b,c,d⟩:=h4 g hg;exact ⟨a,Nat.lt_of_lt_of_le b f.size,c,d⟩
theorem JRows.keys {lo:Nat} {w:World} {l:List Jv} {ks:List Bs} {lv kv:Value} (h:JRows lo w l ks lv kv):w.ownsRow lo 9 1 kv ks.length (ks.map sV):=by
 obtain ⟨cs,S,h1,h2,h3,h4,h5⟩:=h;exact h2
theorem JRows.key {lo:Nat} {w w1:World} {l:List Jv} {ks:List Bs} {lv kv:Value} (h:JRows lo w l ks lv kv) (key:Bs) (g cap:Nat)
  (hown:w1.ownsRow lo 9 1 (.slice (some ⟨g,0,none⟩) (ks.length+1) cap) (ks.length+1) (ks.map sV++[sV key])) (hgr:w.grownBy w1 kv.ownBlock) (hat:kv.ownBlock=some g\/g=w.heap.size) :
  JRows lo w1 l (ks++[key]) lv (.slice (some ⟨g,0,none⟩) (ks.length+1) cap):=by
 obtain ⟨cs,S,h1,h2,h3,h4,h5⟩:=h;have hl:∀ x,lv.ownBlock=some x->x≠g:=fun x hx e=>by
  subst e;rcases hat with hat|hat
  ·exact h5 x hx hat
  ·have:=(h1.lt x hx).2;omega
 refine ⟨cs,S,h1.kept hgr ?_,by simpa using hown,aq.fr (fun x hx=>hgr.block x (h4 x hx).2.1 (fun e=>(h4 x hx).2.2.2 e.symm)) l cs h3,fun x hx => ?_,fun x hx e => ?_⟩
 ·cases hb:lv.ownBlock with
  | none=>exact Or.inl rfl
  | some x=>exact Or.inr (fun e=>h5 x hb e.symm)
 ·obtain ⟨a,b,c,d⟩:=h4 x hx;refine ⟨a,Nat.lt_of_lt_of_le b hgr.size,c,fun e => ?_⟩;have e':g=x:=by simpa [Value.ownBlock] using e
  subst e';rcases hat with hat|hat
  ·exact d hat
  ·omega
 ·have e':g=x:=by simpa [Value.ownBlock] using e
  exact hl x hx e'.symm
theorem JRows.item {lo lo2:Nat} {w w1:World} {hi:Nat} {l:List Jv} {ks:List Bs} {lv kv:Value} (h:JRows lo w l ks lv kv) {j:Jv} {v0 v1 v2 v3 v4:Value} (hj:aG (lB lo2 hi) w j (.agg #[v0,v1,v2,v3,v4]))
  (cN:lo<=lo2) (lC:hi<=w.heap.size) (hlv:∀ g,lv.ownBlock=some g->g<lo2) (qE:∀ g,kv.ownBlock=some g->g<lo2) (g cap:Nat) {cs:List Value}
  (hcs:w.ownsRow lo 31 5 lv l.length cs)
  (hown:w1.ownsRow lo 31 5 (.slice (some ⟨g,0,none⟩) (l.length+1) cap) (l.length+1) (cs++[v0,v1,v2,v3,v4])) (hgr:w.grownBy w1 lv.ownBlock) (hat:lv.ownBlock=some g\/g=w.heap.size) :
  JRows lo w1 (l++[j]) ks (.slice (some ⟨g,0,none⟩) (l.length+1) cap) kv:=by
 obtain ⟨cs',S,h1,h2,h3,h4,h5⟩:=h;have hce:cs=cs':=by
  rcases h1.2 with ⟨e1,e2⟩|⟨g1,c1,u1,e1,e2,e3,e4,e5,e6,e7⟩
  ·have a:=h1.1;have b:=hcs.1;rw [e2] at a b;simp at a b;rw [a,b]
  ·rcases hcs.2 with ⟨f1,f2⟩|⟨g2,c2,u2,f1,f2,f3,f4,f5,f6,f7⟩
   ·rw [e1] at f1;cases f1
   ·rw [e1] at f1;simp at f1;obtain ⟨rfl,rfl⟩:=f1;rw [e3] at f3;simp at f3;subst f3;rw [<- e7,<- f7]
 subst hce;have YM:∀ x,(S x\/lB lo2 hi x)->x≠g:=fun x hx e=>by
  subst e;rcases hx with hx|hx
  ·rcases hat with hat|hat
   ·exact (h4 x hx).2.2.1 hat
   ·have:=(h4 x hx).2.1;omega
  ·have vp:lo2<=x/\x<hi:=hx;rcases hat with hat|hat
   ·have:=hlv x hat;omega
   ·omega
 have dX:∀ x,(S x\/lB lo2 hi x)->x<w.heap.size/\some x≠lv.ownBlock:=fun x hx=>by
  refine ⟨?_,fun e => ?_⟩
  ·rcases hx with hx|hx
   ·exact (h4 x hx).2.1
   ·have vp:lo2<=x/\x<hi:=hx;omega
  ·rcases hx with hx|hx
   ·exact (h4 x hx).2.2.1 e.symm
   ·have vp:lo2<=x/\x<hi:=hx;have:=hlv x e.symm;omega
 refine ⟨cs++[v0,v1,v2,v3,v4],fun x=>S x\/lB lo2 hi x,by simpa using hown,h2.kept hgr ?_,aq.fr (fun x hx=>hgr.block x (dX x hx).1 (dX x hx).2) _ _ (aq.snoc (aG.mono (fun x hx=>Or.inr hx) j _ hj) l cs (aq.mono (fun x hx=>Or.inl hx) l cs h3)),fun x hx => ?_,fun x hx e => ?_⟩
 ·cases hb:kv.ownBlock with
  | none=>exact Or.inl rfl
  | some x=>exact Or.inr (fun e=>h5 x e.symm hb)
 ·refine ⟨?_,Nat.lt_of_lt_of_le (dX x hx).1 hgr.size,fun e => ?_,fun e => ?_⟩
  ·rcases hx with hx|hx
   ·exact (h4 x hx).1
   ·have vp:lo2<=x/\x<hi:=hx;omega
  ·have e':g=x:=by simpa [Value.ownBlock] using e
   exact YM x hx e'.symm
  ·rcases hx with hx|hx
   ·exact (h4 x hx).2.2.2 e
   ·have vp:lo2<=x/\x<hi:=hx;have:=qE x e;omega
 ·have e':g=x:=by simpa [Value.ownBlock] using hx
  subst e';rcases hat with hat|hat
  ·exact h5 g hat e
  ·have:=(h2.lt g e).2;omega
theorem JRows.top {lo hi:Nat} {w:World} {l:List Jv} {ks:List Bs} {lv kv:Value} (h:JRows lo w l ks lv kv) (k:Int) (cN:hi<=lo) (hk:IntOk k) (hl:l.length<=big) (gH:ks.length<=big/\∀ s∈ks,s.length<=big):qD hi w (.mk k 0 [] l ks) (jV k 0 [] lv kv):=by
 obtain ⟨cs,S,h1,h2,h3,h4,h5⟩:=h;exact ⟨lv,kv,cs,S,rfl,hk,by unfold IntOk;omega,by simp,hl,gH,h1.mono cN,h2.mono cN,h3,fun g hg=>by obtain ⟨a,b,c,d⟩:=h4 g hg;exact ⟨by omega,b,c,d⟩⟩
abbrev bC (l:Bs):List Value:=l.map (fun b=>Value.int .u8 (b.toNat:Int))
def BR (lo:Nat) (w:World) (v:Value) (s:Bs):Prop:=w.ownsRow lo 5 1 v s.length (bC s)
theorem cO:(Tryz.prog.info? 5).map (fun i=>(i.zero,i.size,i.bytes))=some (some (.int .u8 0),1,1):=by kernel_rfl
theorem np (l:Bs):∀ u∈bC l,u.oneCell'=true:=by
 intro u hu;obtain ⟨b,_,rfl⟩:=List.mem_map.1 hu;rfl
theorem BR.fr {lo:Nat} {w w':World} {v:Value} {s:Bs} (h:BR lo w v s) (f:Fr NoB w w'):BR lo w' v s:=f.row h (fun _ _ e=>e)
theorem BR.lt {lo:Nat} {w:World} {v:Value} {s:Bs} (h:BR lo w v s) {g:Nat} (hg:v.ownBlock=some g):lo<=g/\g<w.heap.size:=World.ownsRow.lt h g hg
theorem BR.grown {lo:Nat} {w0 w w':World} {v:Value} {s:Bs} (h:BR lo w v s) (f:Fr NoB w0 w) (hg:w.grownBy w' v.ownBlock) (cN:w0.heap.size<=lo):Fr NoB w0 w':=
 f.grown hg (fun j hj hlt=>absurd (h.lt hj).1 (by omega))
theorem BR.sl {lo:Nat} {w:World} {v:Value} {s:Bs} (h:BR lo w v s) (hs:s≠[]):∃ g c,v=.slice (some ⟨g,0,none⟩) s.length c/\lo<=g/\g<w.heap.size/\∀ (i:Nat) u,(bC s)[i]?=some u->w.cell? ⟨g,i,none⟩=some u:=by
 have hc:=@World.ownsRow.cells _ _ _ _ _ _ _ h;have hlt:=fun g hg=>h.lt (g:=g) hg;rcases h.2 with ⟨rfl,h0⟩|⟨g,cap,cur,rfl,hg,hh,_⟩
 ·exact absurd (List.eq_nil_of_length_eq_zero h0) hs
 ·refine ⟨g,cap,rfl,hg,lt_of_block hh,fun i u hu => ?_⟩;have:=hc (g:=g) rfl i u hu;rwa [bT,Nat.zero_add] at this
theorem BR.conv {lo:Nat} {w:World} {v:Value} {s:Bs} (h:BR lo w v s):(convert 81 9 v).run Tryz.prog w=.ok (.string ⟨s.toArray⟩) w:=by
 by_cases hs:s=[]
 ·subst hs;rcases h.2 with ⟨rfl,_⟩|⟨g,cap,cur,rfl,_⟩
  ·exact run_convert_bytes_nil w 81 5 Tryz.underlying81 Tryz.underlying5 0 0 9 Tryz.underlying9
  ·exact run_convert_bytes_back (P:=Tryz.prog) w 81 9 5 ⟨g,0,none⟩ cap [] Tryz.underlying81 Tryz.underlying5 Tryz.underlying9 (fun j hj=>by simp at hj)
 ·obtain ⟨g,c,rfl,_,_,hc⟩:=h.sl hs;refine run_convert_bytes_back (P:=Tryz.prog) w 81 9 5 ⟨g,0,none⟩ c s Tryz.underlying81 Tryz.underlying5 Tryz.underlying9 (fun j hj => ?_);rw [bT,Nat.zero_add];exact hc j _ (by simp [hj])
theorem kQ {ops:Array Oper} {rest:List Oper} {o:Oper} {a:Act} {Q:Exit->Act->World->Prop} {w:World} (hgd:o.guard=none) (sl x:Operand)
  (ho:o.op=.call { callee:=.builtin .append,args := #[sl,x],argTypes := #[81,9] }) (lo:Nat) (v:Value) (s:Bs) (hs:a.eval sl=v) (hown:BR lo w v s) (t:Bs) (hx:a.eval x=.string ⟨t.toArray⟩)
  (hsz:s.length+t.length<=140737488355328) (cN:lo<=w.heap.size) (h:∀ v' w',BR lo w' v' (s++t)->w.grownBy w' v.ownBlock->wpList Tryz.prog ops Q rest (a.put o.dst v') w'):wpList Tryz.prog ops Q (o::rest) a w:=by
 obtain ⟨i0,jv,hz0,hz1,hz2⟩:=info_parts cO;have XI:(⟨t.toArray⟩:ByteArray).size=t.length:=by show t.toArray.size=_;simp
 have UG:Lib.strCells ⟨t.toArray⟩=bC t:=rfl;refine Lib.wpList_append_own_string w hgd sl x 81 9 ho lo 5 i0 Tryz.underlying81 Tryz.underlying9 jv hz0 hz1 hz2 v s.length (bC s) hs hown ⟨t.toArray⟩ hx (by rw [XI];unfold maxLen;omega) (by rw [XI];exact hsz) cN (fun v' w' h1 h2 _=>h v' w' ?_ h2);unfold BR;rw [XI,UG] at h1;simpa using h1
theorem dL {ops:Array Oper} {rest:List Oper} {o:Oper} {a:Act} {Q:Exit->Act->World->Prop} {w:World} (hgd:o.guard=none) (sl x:Operand)
  (ho:o.op=.call { callee:=.builtin .append,args := #[sl,x],argTypes := #[81,81] }) (lo:Nat) (v:Value) (s:Bs) (hs:a.eval sl=v) (hown:BR lo w v s) (g m c:Nat) (t:Bs) (hx:a.eval x=.slice (some ⟨g,0,none⟩) m c) (hm:t.length=m)
  (hc:∀ (i:Nat) u,(bC t)[i]?=some u->w.cell? ⟨g,i,none⟩=some u)
  (hsz:s.length+t.length<=140737488355328) (cN:lo<=w.heap.size) (h:∀ v' w',BR lo w' v' (s++t)->w.grownBy w' v.ownBlock->wpList Tryz.prog ops Q rest (a.put o.dst v') w'):wpList Tryz.prog ops Q (o::rest) a w:=by
 obtain ⟨i0,jv,hz0,hz1,hz2⟩:=info_parts cO;subst hm;refine wpList_append_own w hgd sl x 81 ho lo 5 i0 (.int .u8 0) 1 1 Tryz.underlying81 jv hz0 hz1 hz2 rfl (by decide) v s.length (bC s) hs hown ⟨g,0,none⟩ t.length c (bC t) hx (by simp) (fun j u hu=>by rw [bT,Nat.zero_add];exact hc j u hu) (np t) (by unfold maxLen;omega) (by omega) cN (fun v' w' h1 h2 _=>h v' w' ?_ h2);unfold BR;simpa using h1
theorem aF (w:World) (C:Array Value) (t:Bs) (h:C.toList=bC t):∀ (i:Nat) u,(bC t)[i]?=some u->(w.alloc (.cells C 5)).cell? ⟨w.heap.size,i,none⟩=some u:=by
 intro i u hu;rw [World.cell?_alloc_mark,<- Array.getElem?_toList,h];exact hu
theorem BR.first (w:World) (C:Array Value) (t:Bs) (h:C.toList=bC t) (hl:t.length<=maxLen):BR w.heap.size (w.alloc (.cells C 5)) (.slice (some ⟨w.heap.size,0,none⟩) t.length t.length) t:=by
 have hs:C.size=t.length:=by rw [<- Array.length_toList,h];simp
 exact ⟨by simp,Or.inr ⟨_,_,C,rfl,Nat.le_refl _,heap_alloc_new w _,Nat.le_refl _,hl,by rw [hs];omega,by rw [h,Nat.mul_one];exact List.take_of_length_le (by simp)⟩⟩
theorem ui {ops:Array Oper} {o:Oper} {a:Act} {w:World} {K:Act->World->Prop} {Q:Exit->Act->World->Prop} {E:Prop} (hgd:o.guard=none) (d s:Operand) (dT sT:TypeId)
  (ho:o.op=.call { callee:=.builtin .copy,args := #[d,s],argTypes := #[dT,sT] }) (elem:TypeId) (hu:Tryz.prog.underlying dT=some (.slice elem)) (hsz:(Tryz.prog.info? elem).map (·.size)=some 1)
  (g off uF Du:Nat) (ad:Addr) (TR XV:Nat) (hd:a.eval d=.slice (some ⟨g,off,none⟩) uF Du) (hs:a.eval s=.slice (some ad) TR XV)
  (cur:Array Value) (t:TypeId) (hg:Blk w g t cur) (cs:List Value) (hn:cs.length=Nat.min TR uF)
  (ac0:∀ j v,cs[j]?=some v->w.cell? (ad.add j)=some v) (gm:off+cs.length<=cur.size) (h1:∀ v∈cs,v.oneCell'=true)
  (new:Array Value) (rH:(cur.toList.take off++cs++cur.toList.drop (off+cs.length)).toArray=new) (hKK:∀ w',Blk w' g t new->Fr (Only g) w w'->K (a.put o.dst (goInt cs.length)) w') :
  if Region.wanted o (yielded ops a.tmps)=true then Oper.wp Tryz.prog o a w K Q else E:=by
 have hw:Region.wanted o (yielded ops a.tmps)=true:=by simp [Region.wanted,hgd]
 have hK:=hKK (w.setRow g new) (hg.setRow new) (Fr.eE w g new);subst rH;rw [if_pos hw];have hrun:=run_copy_row (P:=Tryz.prog) w dT sT o.type elem g off uF Du ad TR XV cur t cs hu hsz hg hn ac0 gm h1;unfold Oper.wp;simp [execOp,ho,resolve,invoke,builtin,hd,hs,hrun,Result.andThen];simp only [List.append_assoc] at hK;exact hK
theorem yo (w:World) (dT sT ty elem:TypeId) (g o uF Du:Nat) (s:Bs) (n:Nat) (cur:Array Value) (t:TypeId)
  (hu:Tryz.prog.underlying dT=some (.slice elem)) (hs:(Tryz.prog.info? elem).map (·.size)=some 1)
  (hg:Blk w g t cur) (hn:n=Nat.min s.length uF) (gm:o+n<=cur.size) :
  (Builtin.copy_ #[dT,sT] ty #[.slice (some ⟨g,o,none⟩) uF Du,.string ⟨s.toArray⟩]).run Tryz.prog w =
   .ok (goInt n) (w.setRow g (cur.toList.take o++bC (s.take n)++cur.toList.drop (o+n)).toArray):=by
 have hl:(bC (s.take n)).length=n:=by simp;rw [hn];exact Nat.min_eq_left (Nat.min_le_left _ _)
 have cj:=run_storeCells_at Tryz.prog g o t (bC (s.take n)) 0 cur w hg (by rw [hl];simpa using gm) (np _);rw [hl] at cj;cases hq:Tryz.prog.info? elem with
 | none=>simp [hq] at hs
 | some i=>
  have hi:i.size=1:=by simpa [hq] using hs
  have hz:(⟨s.toArray⟩:ByteArray).size=s.length:=by show s.toArray.size=_;simp
  simp [Builtin.copy_,run_underlying hu,Builtin.lenOf,Builtin.firstCells,sizeOf,typeInfo,hq,hz,<- hn];rw [show bC (s.take n)=(s.map (fun b=>Value.int IntKind.u8 (b.toNat:Int))).take n from List.map_take] at cj;rw [cj];simp
theorem uE {ops:Array Oper} {o:Oper} {a:Act} {w:World} {K:Act->World->Prop} {Q:Exit->Act->World->Prop} {E:Prop} (hgd:o.guard=none) (d s:Operand) (dT sT:TypeId)
  (ho:o.op=.call { callee:=.builtin .copy,args := #[d,s],argTypes := #[dT,sT] }) (elem:TypeId) (hu:Tryz.prog.underlying dT=some (.slice elem)) (hsz:(Tryz.prog.info? elem).map (·.size)=some 1)
  (g off uF Du:Nat) (t8:Bs) (hd:a.eval d=.slice (some ⟨g,off,none⟩) uF Du) (hs:a.eval s=.string ⟨t8.toArray⟩)
  (cur:Array Value) (t:TypeId) (hg:Blk w g t cur) (n:Nat) (hn:n=Nat.min t8.length uF) (gm:off+n<=cur.size)
  (new:Array Value) (rH:(cur.toList.take off++bC (t8.take n)++cur.toList.drop (off+n)).toArray=new) (hKK:∀ w',Blk w' g t new->Fr (Only g) w w'->K (a.put o.dst (goInt n)) w') :
  if Region.wanted o (yielded ops a.tmps)=true then Oper.wp Tryz.prog o a w K Q else E:=by
 have hw:Region.wanted o (yielded ops a.tmps)=true:=by simp [Region.wanted,hgd]
 have hK:=hKK (w.setRow g new) (hg.setRow new) (Fr.eE w g new);subst rH;rw [if_pos hw];have hrun:=yo w dT sT o.type elem g off uF Du t8 n cur t hu hsz hg hn gm;unfold Oper.wp;simp only [execOp,ho,resolve,invoke,builtin,Sem.run_bind,Sem.run_pure,Result.andThen_ok,List.map_toArray,List.map_cons,List.map_nil,hd,hs,hrun];exact hK
end Go.Proofs.YtbifjamddbpcjaaGreatDoor
namespace Go.Proofs.YtbifjamddbpcjaaGreatDoor
set_option maxRecDepth 100000
set_option maxHeartbeats 25600000
open Go.RowKit
def iP (l:List (Bs×Bs)):List Value:=l.flatMap (fun p=>[sV p.1,sV p.2])
theorem A8 (l:List (Bs×Bs)):(iP l).length=2*l.length:=by
 induction l with
 | nil=>rfl
 | cons a r ih=>simp only [iP,List.flatMap_cons,List.length_append,List.length_cons,List.length_nil] at ih ⊢;omega
theorem tL:∀ (l:List (Bs×Bs)) (m:Nat) (h:m<l.length),(iP l)[m*2]?=some (sV l[m].1)/\(iP l)[m*2+1]?=some (sV l[m].2)
 | [],m,h=>by simp at h
 | a::r,0,h=>⟨rfl,rfl⟩
 | a::r,m+1,h=>by
  obtain ⟨h1,h2⟩:=tL r m (by simpa using h);have e1:(m+1)*2=m*2+2:=by omega
  have e2:(m+1)*2+1=m*2+1+2:=by omega
  refine ⟨?_,?_⟩
  ·rw [e1];simpa [iP,List.flatMap_cons] using h1
  ·rw [e2];simpa [iP,List.flatMap_cons] using h2
theorem Ba:(Tryz.prog.info? 55).map (fun i=>(i.zero,i.size,i.bytes))=some (some (.agg #[.string ⟨#[]⟩,.string ⟨#[]⟩]),2,32):=by kernel_rfl
theorem JRows.Uu {lo:Nat} {w:World} {l:List Jv} {ks:List Bs} {lv kv:Value} (h:JRows lo w l ks lv kv):∃ a c,lv=.slice a l.length c:=by
 obtain ⟨cs,T,h1,h2,h3,h4,h5⟩:=h;rcases h1.2 with ⟨e1,e2⟩|⟨g1,c1,u1,e1,_⟩
 ·exact ⟨none,0,by rw [e1,e2]⟩
 ·exact ⟨_,_,e1⟩
theorem JRows.RH {lo:Nat} {w:World} {l:List Jv} {ks:List Bs} {lv kv:Value} (h:JRows lo w l ks lv kv):∃ a c,kv=.slice a ks.length c:=by
 obtain ⟨cs,T,h1,h2,h3,h4,h5⟩:=h;rcases h2.2 with ⟨e1,e2⟩|⟨g1,c1,u1,e1,_⟩
 ·exact ⟨none,0,by rw [e1,e2]⟩
 ·exact ⟨_,_,e1⟩
theorem JRows.RI {lo:Nat} {w:World} {l:List Jv} {ks:List Bs} {lv kv:Value} (h:JRows lo w l ks lv kv):(∀ g,lv.ownBlock=some g->lo<=g/\g<w.heap.size)/\(∀ g,kv.ownBlock=some g->lo<=g/\g<w.heap.size):=by
 obtain ⟨cs,T,h1,h2,h3,h4,h5⟩:=h;exact ⟨fun g hg=>h1.lt g hg,fun g hg=>h2.lt g hg⟩
theorem JRows.F0 {lo:Nat} {w:World} {l:List Jv} {ks:List Bs} {lv kv:Value} (h:JRows lo w l ks lv kv):∃ cs,w.ownsRow lo 31 5 lv l.length cs:=by
 obtain ⟨cs,T,h1,h2,h3,h4,h5⟩:=h;exact ⟨cs,h1⟩
structure OB (w:World) (ls:List Bs) (ks:List Bs) (lv kv:Value) (u:World):Prop where
 r:Blk u w.heap.size 31 zj
 v:Blk u (w.heap.size+1) 31 #[.int .i64 6,.int .i64 0,.string ⟨#[]⟩,lv,kv]
 rows:JRows (w.heap.size+2) u (ls.map textJ) ks lv kv
 fr:Fr NoB w u
theorem OB.cT {w u u':World} {ls ks:List Bs} {lv kv:Value} (h:OB w ls ks lv kv u) (f:Fr NoB u u'):OB w ls ks lv kv u':=
 ⟨f.blk h.r (fun e=>e),f.blk h.v (fun e=>e),h.rows.fr f (fun _ _ e=>e),h.fr.trans f⟩
theorem Bf (S:Nat->Prop) (w:World) (t:Bs) (ht:t.length<=big):aG S w (textJ t) (.agg #[.int .i64 4,.int .i64 0,.string ⟨t.toArray⟩,.slice none 0 0,.slice none 0 0]):=
 L3 S w 4 0 t (by unfold IntOk;omega) (by unfold IntOk;omega) ht none none 0 0
theorem OB.start (w:World):OB w [] [] (.slice none 0 0) (.slice none 0 0) ((w.alloc (.cells zj 31)).alloc (.cells #[.int .i64 6,.int .i64 0,.string ⟨#[]⟩,.slice none 0 0,.slice none 0 0] 31)):=by
 refine ⟨(Blk.new w 31 zj).alloc _,?_,JRows.nil _ _,((Fr.refl _ _).alloc _).alloc _⟩;have:=Blk.new (w.alloc (.cells zj 31)) 31 #[.int .i64 6,.int .i64 0,.string ⟨#[]⟩,.slice none 0 0,.slice none 0 0];have h3:(w.alloc (.cells zj 31)).heap.size=w.heap.size+1:=by simp
 rwa [h3] at this
theorem Pq (lv kv:Value) (h1:∃ a n c,lv=.slice a n c) (h2:∃ a n c,kv=.slice a n c):(#[Value.int .i64 6,.int .i64 0,.string ⟨#[]⟩,lv,kv].all (·.oneCell'))=true:=by
 obtain ⟨a,n,c,rfl⟩:=h1;obtain ⟨b,m,d,rfl⟩:=h2;exact bU 6 0 ⟨#[]⟩ a b n c m d
theorem OB.key {w u w1:World} {ls ks:List Bs} {lv kv:Value} (h:OB w ls ks lv kv u) (key:Bs) (g cap:Nat) (o:Obj)
  (hown:w1.ownsRow (w.heap.size+2) 9 1 (.slice (some ⟨g,0,none⟩) (ks.length+1) cap) (ks.length+1) (ks.map sV++[sV key])) (hgr:(u.alloc o).grownBy w1 kv.ownBlock) (hat:kv.ownBlock=some g\/g=u.heap.size+1) :
  Blk w1 (w.heap.size+1) 31 #[.int .i64 6,.int .i64 0,.string ⟨#[]⟩,lv,kv]/\OB w ls (ks++[key]) lv (.slice (some ⟨g,0,none⟩) (ks.length+1) cap) (w1.setCell ⟨w.heap.size+1,4,none⟩ (.slice (some ⟨g,0,none⟩) (ks.length+1) cap)):=by
 have ha:Fr NoB u (u.alloc o):=(Fr.refl _ _).alloc _;have mc:∀ x,kv.ownBlock=some x->w.heap.size+2<=x:=fun x hx=>(h.rows.keys.lt x hx).1;have dX:=(h.rows.fr ha (fun _ _ e=>e)).key key g cap hown hgr (by simpa using hat);have hF:Fr (fun x=>kv.ownBlock=some x) u w1:=(Fr.refl _ u |>.alloc o).grown hgr (fun j hj _=>hj);have hn:∀ x,x<w.heap.size+2->¬ (kv.ownBlock=some x):=fun x hx e=>by have:=mc x e;omega
 have hS:Fr (Only (w.heap.size+1)) w1 (w1.setCell ⟨w.heap.size+1,4,none⟩ (.slice (some ⟨g,0,none⟩) (ks.length+1) cap)):=(Fr.refl _ w1).only _;have MF:=hF.blk h.v (hn _ (by omega));refine ⟨MF,hS.blk (hF.blk h.r (hn _ (by omega))) (fun e=>by have e':w.heap.size=w.heap.size+1:=e;omega),?_,dX.fr hS (fun x hx e=>by have e':x=w.heap.size+1:=e;omega),?_⟩
 ·have:=MF.aS 4 (.slice (some ⟨g,0,none⟩) (ks.length+1) cap);simpa using this
 ·exact ((h.fr.alloc o).grown hgr (fun j hj hlt=>absurd hlt (by have:=mc j hj;omega))).setCell_new (p:=⟨w.heap.size+1,4,none⟩) (by simp) _
theorem OB.item {w u w1:World} {ls ks:List Bs} {lv kv:Value} (h:OB w ls ks lv kv u) (t:Bs) (ht:t.length<=big) (g cap:Nat) (o:Obj) {cs:List Value} (hcs:(u.alloc o).ownsRow (w.heap.size+2) 31 5 lv ls.length cs)
  (hown:w1.ownsRow (w.heap.size+2) 31 5 (.slice (some ⟨g,0,none⟩) (ls.length+1) cap) (ls.length+1) (cs++[.int .i64 4,.int .i64 0,.string ⟨t.toArray⟩,.slice none 0 0,.slice none 0 0])) (hgr:(u.alloc o).grownBy w1 lv.ownBlock) (hat:lv.ownBlock=some g\/g=u.heap.size+1) :
  Blk w1 (w.heap.size+1) 31 #[.int .i64 6,.int .i64 0,.string ⟨#[]⟩,lv,kv]/\OB w (ls++[t]) ks (.slice (some ⟨g,0,none⟩) (ls.length+1) cap) kv (w1.setCell ⟨w.heap.size+1,3,none⟩ (.slice (some ⟨g,0,none⟩) (ls.length+1) cap)):=by
 have ha:Fr NoB u (u.alloc o):=(Fr.refl _ _).alloc _;obtain ⟨cs0,FI⟩:=h.rows.F0;rw [List.length_map] at FI;have mc:∀ x,lv.ownBlock=some x->w.heap.size+2<=x/\x<u.heap.size:=fun x hx=>FI.lt x hx;have IB:∀ x,kv.ownBlock=some x->x<u.heap.size:=fun x hx=>(h.rows.keys.lt x hx).2;have cN:=h.v.lt;have dX:=(h.rows.fr ha (fun _ _ e=>e)).item (lo2:=u.heap.size) (hi:=u.heap.size) (j:=textJ t) (Bf _ _ t ht) (by omega) (by simp) (fun x hx=>(mc x hx).2) IB g cap (by rw [List.length_map];exact hcs) (by rw [List.length_map];exact hown) hgr (by simpa using hat);rw [List.length_map] at dX;have hF:Fr (fun x=>lv.ownBlock=some x) u w1:=(Fr.refl _ u |>.alloc o).grown hgr (fun j hj _=>hj);have hn:∀ x,x<w.heap.size+2->¬ (lv.ownBlock=some x):=fun x hx e=>by have:=(mc x e).1;omega
 have hS:Fr (Only (w.heap.size+1)) w1 (w1.setCell ⟨w.heap.size+1,3,none⟩ (.slice (some ⟨g,0,none⟩) (ls.length+1) cap)):=(Fr.refl _ w1).only _;have MF:=hF.blk h.v (hn _ (by omega));refine ⟨MF,hS.blk (hF.blk h.r (hn _ (by omega))) (fun e=>by have e':w.heap.size=w.heap.size+1:=e;omega),?_,?_,?_⟩
 ·have:=MF.aS 3 (.slice (some ⟨g,0,none⟩) (ls.length+1) cap);simpa using this
 ·rw [List.map_append];exact dX.fr hS (fun x hx e=>by have e':x=w.heap.size+1:=e;omega)
 ·exact ((h.fr.alloc o).grown hgr (fun j hj hlt=>absurd hlt (by have:=(mc j hj).1;omega))).setCell_new (p:=⟨w.heap.size+1,3,none⟩) (by simp) _
theorem sD (l:List (Bs×Bs)) (v:Value) (w:World) (hm:aT (All w) w v l.length (iP l)) (hl:l.length<=1000) (hs:∀ p∈l,p.1.length<=big/\p.2.length<=big) :
  Calls Tryz.prog 26 #[v] w fun e w'=>∃ u,e=.returned u/\aG (lB w.heap.size w'.heap.size) w' (cE l) u/\Fr NoB w w':=by
 obtain ⟨i1,IG,nw,um,yy⟩:=info_parts mv;obtain ⟨i0,jv,hz0,hz1,hz2⟩:=info_parts oB;obtain ⟨av,cv,rfl⟩:=hm.sl;have HM:=hd' hm;have HSZ:=hd' hs;clear hm hs;have st:=OB.start w;go_enter Tryz.func26,Tryz.ntmps26;go_upto_region 2 with fail;generalize (w.alloc (.cells zj 31)).alloc (.cells #[.int .i64 6,.int .i64 0,.string ⟨#[]⟩,.slice none 0 0,.slice none 0 0] 31)=W at *;go_wp2_with fail;go_loopw [9] (fun v9 wr=>∃ (m:Nat) (lv kv:Value),m<=l.length/\v9=.int .i64 m/\OB w ((l.take m).map (fun p=>p.2)) ((l.take m).map (fun p=>p.1)) lv kv wr) (fun v _=>l.length - (intOf v).toNat)
 case atStart=>exact ⟨0,_,_,Nat.zero_le _,rfl,by simpa using st⟩
 case round=>
  clear st;obtain ⟨m,lv,kv,hm,rfl,IP⟩:=hrel;have Fl:w.heap.size+2<=wr.heap.size:=by have:=IP.v.lt;omega
  by_cases hlt:m<l.length
  ·have k1:(0:Int)<=m:=by omega
   have k2:(m:Int)<l.length:=by omega
   obtain ⟨ga,oa,rfl,hcell⟩:=HM.out.at_ IP.fr (by omega);obtain ⟨c0,c1⟩:=tL l m hlt;have e0:=hcell _ _ c0;have e1:=hcell _ _ c1;have e1':wr.cell? ⟨ga,oa+m*2+1,none⟩=some (sV l[m].2):=e1;obtain ⟨z0,z1⟩:=HSZ.out l[m] (List.getElem_mem hlt);have Ni:Hid ((l.take (m+1)).map (fun p=>p.1)=(l.take m).map (fun p=>p.1)++[l[m].1]):=hd' (by rw [List.take_succ_eq_append_getElem hlt,List.map_append];rfl);have mn:Hid ((l.take (m+1)).map (fun p=>p.2)=(l.take m).map (fun p=>p.2)++[l[m].2]):=hd' (by rw [List.take_succ_eq_append_getElem hlt,List.map_append];rfl);have uy:((l.take m).map (fun p=>p.1)).length=m:=by rw [List.length_map,List.length_take];omega
   have XJ:((l.take m).map (fun p=>p.2)).length=m:=by rw [List.length_map,List.length_take];omega
   clear hcell c0 c1 e1;generalize l[m]=p at *;obtain ⟨nm,tx⟩:=p;simp only at z0 z1;generalize (l.take m).map (fun p=>p.1)=KS at *;generalize (l.take m).map (fun p=>p.2)=LS at *;subst uy;have XK:=hd' XJ;clear XJ;go_upto_region 5 with fail;have b1:=Blk.new wr 55 #[.string ⟨nm.toArray⟩,.string ⟨tx.toArray⟩];have f1:Fr NoB wr (wr.alloc (.cells #[.string ⟨nm.toArray⟩,.string ⟨tx.toArray⟩] 55)):=(Fr.refl _ _).alloc _;have Zr:=IP.cT f1;have uq:Hid ((wr.alloc (.cells #[.string ⟨nm.toArray⟩,.string ⟨tx.toArray⟩] 55)).heap.size=wr.heap.size+1):=hd' (by simp);have mc:∀ x,kv.ownBlock=some x->x<wr.heap.size:=fun x hx=>(IP.rows.keys.lt x hx).2;clear e0 e1' f1 IP;generalize wr.alloc (.cells #[.string ⟨nm.toArray⟩,.string ⟨tx.toArray⟩] 55)=U at *;have hgu:w.heap.size+2<=U.heap.size:=by have:=uq.out;omega
   have ck:=Zr.rows.keys;have m0:U.cell? ⟨wr.heap.size,0,none⟩=some (sV nm):=(b1.cell 0).trans rfl;have v4:U.cell? ⟨w.heap.size+1,4,none⟩=some kv:=(Zr.v.cell 4).trans rfl;have XL:=((Fr.refl NoB U).alloc (.cells #[sV nm] 9)).row ck (fun _ _ e=>e);go_upto_region 6 with (at_builtin;go_loud (refine wpList_append_lies _ rfl _ _ 29 rfl (w.heap.size+2) 9 i0 (.string ⟨#[]⟩) 1 16 Tryz.underlying29 jv hz0 hz1 hz2 rfl (by decide) kv KS.length (KS.map sV) rfl XL ⟨U.heap.size,0,none⟩ 1 1 [sV nm] rfl rfl (World.news_of_block (cs := #[sV nm]) (t:=9) (fr:=(0,0)) (heap_alloc_new U _)) (by intro u hu;rw [List.mem_singleton] at hu;subst hu;rfl) (by omega) (by unfold maxLen;omega) (by omega) (by simp;omega) (U.heap.size+1) (by simp) ?_;intro gk Ps wk Qx TK XM XN;obtain ⟨bv,st2⟩:=Zr.key nm gk Ps _ Qx TK XM;have cv4:wk.cell? ⟨w.heap.size+1,4,none⟩=some kv:=(bv.cell 4).trans rfl;have zv4:=bv.frozen 4));have b2:Blk (wk.setCell ⟨w.heap.size+1,4,none⟩ (.slice (some ⟨gk,0,none⟩) (KS.length+1) Ps)) wr.heap.size 55 #[.string ⟨nm.toArray⟩,.string ⟨tx.toArray⟩]:=
    ((Fr.refl (Only (w.heap.size+1)) wk).only _).blk (((Fr.refl (fun x=>kv.ownBlock=some x) U).alloc (.cells #[sV nm] 9)).grown TK (fun j hj _=>hj) |>.blk b1 (fun e=>by have:=mc _ e;omega)) (fun e=>by have e':wr.heap.size=w.heap.size+1:=e;omega)
   clear ck XL Qx TK XM XN cv4 zv4 bv b1 Zr v4 m0 hgu uq;generalize wk.setCell ⟨w.heap.size+1,4,none⟩ (.slice (some ⟨gk,0,none⟩) (KS.length+1) Ps)=V2 at *;generalize Value.slice (some ⟨gk,0,none⟩) (KS.length+1) Ps=kv2 at *;have hgu:w.heap.size+2<=V2.heap.size:=by have:=st2.v.lt;omega
   obtain ⟨cs,ck⟩:=st2.rows.F0;rw [List.length_map] at ck;have m1:V2.cell? ⟨wr.heap.size,1,none⟩=some (sV tx):=(b2.cell 1).trans rfl;have v3:V2.cell? ⟨w.heap.size+1,3,none⟩=some lv:=(st2.v.cell 3).trans rfl;have XL:=((Fr.refl NoB V2).alloc (.cells #[.int .i64 4,.int .i64 0,.string ⟨tx.toArray⟩,.slice none 0 0,.slice none 0 0] 31)).row ck (fun _ _ e=>e);go_wp2_with (at_builtin;go_loud (refine wpList_append_lies _ rfl _ _ 28 rfl (w.heap.size+2) 31 i1 (jV 0 0 [] (.slice none 0 0) (.slice none 0 0)) 5 80 Tryz.underlying28 IG nw um yy rfl (by decide) lv LS.length cs rfl XL ⟨V2.heap.size,0,none⟩ 1 1 [.int .i64 4,.int .i64 0,.string ⟨tx.toArray⟩,.slice none 0 0,.slice none 0 0] rfl rfl (World.news_of_block (cs := #[.int .i64 4,.int .i64 0,.string ⟨tx.toArray⟩,.slice none 0 0,.slice none 0 0]) (t:=31) (fr:=(0,0)) (heap_alloc_new V2 _)) (Bf (All w) w tx z1).one (by omega) (by have:=XK.out;unfold maxLen;omega) (by have:=XK.out;omega) (by simp;omega) (V2.heap.size+1) (by simp) ?_;intro g cap wl hown hgr hat qF;obtain ⟨bv3,Qe⟩:=st2.item tx z1 g cap _ XL hown hgr hat;have cv3:wl.cell? ⟨w.heap.size+1,3,none⟩=some lv:=(bv3.cell 3).trans rfl;have zv3:=bv3.frozen 3));go_roundw
   case rel=>exact ⟨KS.length+1,_,_,by omega,by simp,by rw [Ni.out,mn.out];exact Qe⟩
   case measure=>simp [intOf];omega
  ·obtain rfl:m=l.length:=by omega
   have dw:=Pq lv kv (by obtain ⟨a,c,h⟩:=IP.rows.Uu;exact ⟨a,_,c,h⟩) (by obtain ⟨a,c,h⟩:=IP.rows.RH;exact ⟨a,_,c,h⟩);rw [List.take_length] at IP;have hv:=IP.v;have hr:=IP.r;have MN:=hd' IP;clear IP;go_wp2_with (first|(refine gI rfl _ rfl (w.heap.size+1) rfl hv rfl ?_)|(refine wpList_store_row rfl 31 _ _ rfl w.heap.size #[.int .i64 6,.int .i64 0,.string ⟨#[]⟩,lv,kv] rfl rfl 31 zj hr ah rfl dw ?_));have fS:Fr (Only w.heap.size) wr (wr.setRow w.heap.size #[.int .i64 6,.int .i64 0,.string ⟨#[]⟩,lv,kv]):=Fr.eE _ _ _;have ht:=((MN.out.rows.fr fS (fun g hg e=>by have e':g=w.heap.size:=e;omega)).top (hi:=w.heap.size+2) 6 (Nat.le_refl _) (by unfold IntOk;omega) (by simp;unfold big;omega) ⟨by simp;unfold big;omega,fun s hs=>by obtain ⟨p,hp,rfl⟩:=List.mem_map.1 hs;exact (HSZ.out p hp).1⟩).at_;rw [List.map_map] at ht;exact bodyPost_ret (v:=jV 6 0 [] lv kv) (bG rfl _ _ w.heap.size _ _ _ _ _ rfl (hr.setRow _)) rfl ⟨_,rfl,aG.mono (fun g hg=>⟨by have:=hg.1;omega,hg.2⟩) _ _ ht,MN.out.fr.setRow w.heap.size _ (Or.inl (Nat.le_refl _))⟩
theorem Fr.eD {w u:World} (f:Fr NoB w u) {p:Addr} {v:Value} (h:w.cell? p=some v):u.cell? p=some v:=by
 rw [f.cell (World.block_lt_of_cell? w p h) (fun e=>e)];exact h
def Kg (c:UInt8):Bool:=decide (33<=c.toNat)&&decide (c.toNat<=126)
theorem qT {s:Bs} {m:Nat} {c:UInt8} (h:s[m]?=some c) (hc:Kg c=false):fK s=false:=by
 unfold fK;rw [Bool.and_eq_false_iff];refine Or.inl ?_;rw [List.all_eq_false];exact ⟨c,List.mem_of_getElem? h,by unfold Kg at hc;rw [hc];simp⟩
theorem zZ {s:Bs} (h:∀ (j:Nat) c,j<s.length->s[j]?=some c->Kg c=true):fK s=decide (s.length<=64):=by
 unfold fK;have:(s.all (fun c=>decide (33<=c.toNat)&&decide (c.toNat<=126)))=true:=by
  rw [List.all_eq_true];intro c hc;obtain ⟨j,hj,rfl⟩:=List.mem_iff_getElem.1 hc;exact h j _ hj (List.getElem?_eq_getElem hj)
 rw [this,Bool.true_and]
theorem yP (s:Bs) (w:World) (hl:s.length<=4398046511104):Calls Tryz.prog 35 #[.string ⟨s.toArray⟩] w fun e w'=>e=.returned (.bool (fK s))/\w'=w:=by
 obtain ⟨res,aH⟩:∃ r,r=fK s:=⟨_,rfl⟩;rw [<- aH];have bV:=hd' aH;clear aH;go_enter Tryz.func35,Tryz.ntmps35;go_wp2_with fail;go_loopw [6] (fun v wr=>∃ m:Nat,m<=s.length/\v=.int .i64 m/\(∀ (j:Nat) c,j<m->s[j]?=some c->Kg c=true)/\wr=w) (fun v _=>s.length - (intOf v).toNat)
 case atStart=>exact ⟨0,Nat.zero_le _,rfl,fun j c h=>by omega,rfl⟩
 case round=>
  obtain ⟨m,hm,rfl,gi,rfl⟩:=hrel;have hsz:(⟨s.toArray⟩:ByteArray).size=s.length:=rfl;by_cases hlt:m<s.length
  ·have k1:(0:Int)<=m:=by omega
   have k2:(m:Int)<s.length:=by omega
   have hg:=aM s m hlt;have HA:=hd' (List.getElem?_eq_getElem hlt);have HOK:=hd' gi;clear gi;generalize s[m]=c at *;have hc:=c.toNat_lt;by_cases h1:(c.toNat:Int)<33
   ·go_wp2_with fail;go_ret;exact ⟨by rw [bV.out,qT HA.out (by unfold Kg;simp;omega)];rfl,rfl⟩
   ·by_cases h2:(126:Int)<c.toNat
    ·go_wp2_with fail;go_ret;exact ⟨by rw [bV.out,qT HA.out (by unfold Kg;simp;omega)];rfl,rfl⟩
    ·go_wp2_with fail;go_roundw
     case rel=>
      refine ⟨m+1,by omega,by simp,fun j x hj hx => ?_,trivial⟩;by_cases hjm:j=m
      ·subst hjm;rw [HA.out] at hx;cases hx;unfold Kg;simp;omega
      ·exact HOK.out j x (by omega) hx
     case measure=>simp [intOf];omega
  ·obtain rfl:m=s.length:=by omega
   have HW:=hd' (zZ gi);clear gi;by_cases h6:(s.length:Int)<=64
   ·go_wp2_with fail;go_ret;exact ⟨by rw [bV.out,HW.out];simp;omega,rfl⟩
   ·go_wp2_with fail;go_ret;exact ⟨by rw [bV.out,HW.out];simp;omega,rfl⟩
theorem Pt (a:Nat) (ha:a<256):bits .and .u8 (a:Int) 1=((a % 2:Nat):Int):=by
 have h1:(BitVec.ofInt 8 (a:Int)).toNat=a:=by
  rw [BitVec.ofInt_natCast,BitVec.toNat_ofNat];exact Nat.mod_eq_of_lt (by omega)
 have h2:(BitVec.ofInt 8 (1:Int)).toNat=1:=by decide
 show IntKind.u8.wrap ((BitVec.ofInt 8 (a:Int) &&& BitVec.ofInt 8 (1:Int)).toNat:Int)=_;rw [BitVec.toNat_and,h1,h2,Nat.and_one_is_mod,IntKind.wrap_u8];omega
theorem DL (s:Bs) (w:World) (hl:s.length<=4398046511104):Calls Tryz.prog 116 #[.string ⟨s.toArray⟩] w fun e w'=>e=.returned (.bool (rE s))/\w'=w:=by
 obtain ⟨res,aH⟩:∃ r,r=rE s:=⟨_,rfl⟩;rw [<- aH];have hsz:(⟨s.toArray⟩:ByteArray).size=s.length:=rfl;cases s with
 | nil=>
  have bV:=hd' aH;clear aH;go_enter Tryz.func116,Tryz.ntmps116;go_wp2_with fail;go_ret;exact ⟨by rw [bV.out];rfl,rfl⟩
 | cons c0 r=>
  obtain ⟨s,hs⟩:∃ s,s=c0::r:=⟨_,rfl⟩;rw [<- hs] at hl hsz aH ⊢;have yN:0<s.length:=by rw [hs];simp
  have h0:=aM s 0 yN;have hlt:s.length - 1<s.length:=by omega
  obtain ⟨d,hd⟩:∃ d,d=s[s.length - 1]:=⟨_,rfl⟩;obtain ⟨x,hx⟩:∃ x,x=s[0]:=⟨_,rfl⟩;have XO:=aM s (s.length - 1) hlt;rw [<- hd] at XO;rw [<- hx] at h0;have Qy:res=(x != 0&&(d.toNat % 2==1)):=by
   have h1:s[s.length - 1]?=some d:=by rw [List.getElem?_eq_getElem hlt,hd]
   have h2:x=c0:=by subst hs;exact hx
   rw [aH,h2,hs,rE,<- hs,List.getLast?_eq_getElem?,h1];rfl
  have hne:s.isEmpty=false:=by rw [hs];rfl
  clear aH hd hx hs;have bV:=hd' Qy;clear Qy;have hc:=x.toNat_lt;have MV:=d.toNat_lt;have k1:(1:Int)<=s.length:=by omega
  have k2:(0:Int)<=(s.length:Int) - 1:=by omega
  have k3:((s.length:Int) - 1).toNat=s.length - 1:=by omega
  have ha:=Pt d.toNat MV;by_cases rC:x=0
  ·subst rC;go_enter Tryz.func116,Tryz.ntmps116;go_wp2_with fail;all_goals (go_ret;exact ⟨by rw [bV.out];first|rfl|simp,rfl⟩)
  ·have mN:x.toNat≠0:=fun e=>rC (UInt8.toNat_inj.1 e);have Bp:((x.toNat:Int) != 0)=(x != 0):=by rw [bne_iff_ne.2 rC,bne_iff_ne.2 (by omega)]
   rcases Nat.mod_two_eq_zero_or_one d.toNat with hp|hp
   ·rw [hp] at ha bV;go_enter Tryz.func116,Tryz.ntmps116;go_wp2_with fail;all_goals (go_ret;exact ⟨by rw [bV.out];first|rfl|simp,rfl⟩)
   ·rw [hp] at ha bV;go_enter Tryz.func116,Tryz.ntmps116;go_wp2_with fail;all_goals (go_ret;exact ⟨by rw [bV.out];first|rfl|(simp;done)|(simp;exact Bp),rfl⟩)
end Go.Proofs.YtbifjamddbpcjaaGreatDoor
