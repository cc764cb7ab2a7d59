/- JSON, the document's side: Same, at two values that read as one. -/
import Derived.Test.YtbifjamddbpcjaaGreatDoorJl
import Derived.StillTailTactics
import Derived.Lib.AppendStr
import Derived.Deep.RegionLaw
import Derived.Laws.CopyRow
namespace Go.Proofs.YtbifjamddbpcjaaGreatDoor
open Go.RowKit
def SM (j:Jv):Prop:=∀ (va vb:Value) (w:World),RAt (All w) w j va→RAt (All w) w j vb→Calls Tryz.prog 14 #[va,vb] w fun e w'=>e=.returned (.bool true)∧Fr NoB w w'
theorem RAt.form {S:Nat→Prop} {w:World} {j:Jv} {v:Value} (h:RAt S w j v):∃ v0 v1 v2 v3 v4,v=.agg #[v0,v1,v2,v3,v4]∧(#[v0,v1,v2,v3,v4].all (·.oneCell'))=true:=by
 cases j with
 | mk k i t l ks=>
  have h0:=h
  simp only [RAt] at h
  obtain ⟨lv,kv,rfl,_⟩:=h
  exact ⟨_,_,_,_,_,rfl,all_one h0.one⟩
theorem put_row (u:World) (v0 v1 v2 v3 v4:Value):Fr NoB u ((u.alloc (.cells zj 31)).setRow u.heap.size #[v0,v1,v2,v3,v4])∧Blk ((u.alloc (.cells zj 31)).setRow u.heap.size #[v0,v1,v2,v3,v4]) u.heap.size 31 #[v0,v1,v2,v3,v4]:=
 ⟨((Fr.refl NoB u).alloc _).setRow u.heap.size _ (Or.inl (Nat.le_refl _)),(Blk.new u 31 zj).setRow _⟩
theorem Blk.five {w:World} {g:Nat} {v0 v1 v2 v3 v4:Value} (h:Blk w g 31 #[v0,v1,v2,v3,v4]):w.cell? ⟨g,0,none⟩=some v0∧w.cell? ⟨g,1,none⟩=some v1∧w.cell? ⟨g,2,none⟩=some v2∧w.cell? ⟨g,3,none⟩=some v3∧w.cell? ⟨g,4,none⟩=some v4:=
 ⟨(h.cell 0).trans rfl,(h.cell 1).trans rfl,(h.cell 2).trans rfl,(h.cell 3).trans rfl,(h.cell 4).trans rfl⟩
theorem RStrs.all {w u:World} {ks:List Bs} {v:Value} (h:RStrs (All w) w ks v) (f:Fr NoB w u):RStrs (All u) u ks v:=
 RStrs.mono (RStrs.fr h (fun g hg=>f.block g hg (fun e=>e))) (fun _ hg=>Nat.lt_of_lt_of_le hg f.size)
def JRows (lo:Nat) (w:World) (l:List Jv) (ks:List Bs) (lv kv:Value):Prop:=
 ∃ (cs:List Value) (S:Nat→Prop),w.ownsRow lo 31 5 lv l.length cs∧w.ownsRow lo 9 1 kv ks.length (ks.map sV)∧RCells S w l cs ∧
  (∀ g,S g→lo≤g∧g<w.heap.size∧lv.ownBlock≠some g∧kv.ownBlock≠some g)∧(∀ g,lv.ownBlock=some g→kv.ownBlock≠some g)
theorem JRows.nil (lo:Nat) (w:World):JRows lo w [] [] (.slice none 0 0) (.slice none 0 0):=
 ⟨[],fun _=>False,World.ownsRow_nil _ _ _ _,World.ownsRow_nil _ _ _ _,by simp [RCells],fun _ h=>h.elim,fun _ h=>by simp [Value.ownBlock] at h⟩
theorem JRows.fr {T:Nat→Prop} {lo:Nat} {w w':World} {l:List Jv} {ks:List Bs} {lv kv:Value} (h:JRows lo w l ks lv kv) (f:Fr T w w') (hT:∀ g,lo≤g→¬ T g):JRows lo w' l ks lv kv:=by
 obtain ⟨cs,S,h1,h2,h3,h4,h5⟩:=h
 refine ⟨cs,S,f.row h1 (fun g hg=>hT g (h1.lt g hg).1),f.row h2 (fun g hg=>hT g (h2.lt g hg).1),RCells.fr (fun g hg=>f.block g (h4 g hg).2.1 (hT g (h4 g hg).1)) l cs h3,fun g hg => ?_,h5⟩
 obtain ⟨a,b,c,d⟩:=h4 g hg
 exact ⟨a,Nat.lt_of_lt_of_le b f.size,c,d⟩
theorem JRows.keys {lo:Nat} {w:World} {l:List Jv} {ks:List Bs} {lv kv:Value} (h:JRows lo w l ks lv kv):w.ownsRow lo 9 1 kv ks.length (ks.map sV):=by
 obtain ⟨cs,S,h1,h2,h3,h4,h5⟩:=h;exact h2
theorem JRows.key {lo:Nat} {w w1:World} {l:List Jv} {ks:List Bs} {lv kv:Value} (h:JRows lo w l ks lv kv) (key:Bs) (g cap:Nat)
  (hown:w1.ownsRow lo 9 1 (.slice (some ⟨g,0,none⟩) (ks.length+1) cap) (ks.length+1) (ks.map sV++[sV key])) (hgr:w.grownBy w1 kv.ownBlock) (hat:kv.ownBlock=some g∨g=w.heap.size) :
  JRows lo w1 l (ks++[key]) lv (.slice (some ⟨g,0,none⟩) (ks.length+1) cap):=by
 obtain ⟨cs,S,h1,h2,h3,h4,h5⟩:=h
 have hl:∀ x,lv.ownBlock=some x→x≠g:=fun x hx e=>by
  subst e
  rcases hat with hat|hat
  ·exact h5 x hx hat
  ·have:=(h1.lt x hx).2;omega
 refine ⟨cs,S,h1.kept hgr ?_,by simpa using hown,RCells.fr (fun x hx=>hgr.block x (h4 x hx).2.1 (fun e=>(h4 x hx).2.2.2 e.symm)) l cs h3,fun x hx => ?_,fun x hx e => ?_⟩
 ·cases hb:lv.ownBlock with
  | none=>exact Or.inl rfl
  | some x=>exact Or.inr (fun e=>h5 x hb e.symm)
 ·obtain ⟨a,b,c,d⟩:=h4 x hx
  refine ⟨a,Nat.lt_of_lt_of_le b hgr.size,c,fun e => ?_⟩
  have e':g=x:=by simpa [Value.ownBlock] using e
  subst e'
  rcases hat with hat|hat
  ·exact d hat
  ·omega
 ·have e':g=x:=by simpa [Value.ownBlock] using e
  exact hl x hx e'.symm
theorem JRows.item {lo lo2:Nat} {w w1:World} {hi:Nat} {l:List Jv} {ks:List Bs} {lv kv:Value} (h:JRows lo w l ks lv kv) {j:Jv} {v0 v1 v2 v3 v4:Value} (hj:RAt (Rng lo2 hi) w j (.agg #[v0,v1,v2,v3,v4]))
  (hlo:lo≤lo2) (hhi:hi≤w.heap.size) (hlv:∀ g,lv.ownBlock=some g→g<lo2) (hkv:∀ g,kv.ownBlock=some g→g<lo2) (g cap:Nat) {cs:List Value}
  (hcs:w.ownsRow lo 31 5 lv l.length cs)
  (hown:w1.ownsRow lo 31 5 (.slice (some ⟨g,0,none⟩) (l.length+1) cap) (l.length+1) (cs++[v0,v1,v2,v3,v4])) (hgr:w.grownBy w1 lv.ownBlock) (hat:lv.ownBlock=some g∨g=w.heap.size) :
  JRows lo w1 (l++[j]) ks (.slice (some ⟨g,0,none⟩) (l.length+1) cap) kv:=by
 obtain ⟨cs',S,h1,h2,h3,h4,h5⟩:=h
 have hce:cs=cs':=by
  rcases h1.2 with ⟨e1,e2⟩|⟨g1,c1,u1,e1,e2,e3,e4,e5,e6,e7⟩
  ·have a:=h1.1;have b:=hcs.1;rw [e2] at a b;simp at a b;rw [a,b]
  ·rcases hcs.2 with ⟨f1,f2⟩|⟨g2,c2,u2,f1,f2,f3,f4,f5,f6,f7⟩
   ·rw [e1] at f1;cases f1
   ·rw [e1] at f1;simp at f1;obtain ⟨rfl,rfl⟩:=f1
    rw [e3] at f3;simp at f3;subst f3
    rw [← e7,← f7]
 subst hce
 have hgn:∀ x,(S x∨Rng lo2 hi x)→x≠g:=fun x hx e=>by
  subst e
  rcases hx with hx|hx
  ·rcases hat with hat|hat
   ·exact (h4 x hx).2.2.1 hat
   ·have:=(h4 x hx).2.1;omega
  ·have hx':lo2≤x∧x<hi:=hx
   rcases hat with hat|hat
   ·have:=hlv x hat;omega
   ·omega
 have hrow:∀ x,(S x∨Rng lo2 hi x)→x<w.heap.size∧some x≠lv.ownBlock:=fun x hx=>by
  refine ⟨?_,fun e => ?_⟩
  ·rcases hx with hx|hx
   ·exact (h4 x hx).2.1
   ·have hx':lo2≤x∧x<hi:=hx;omega
  ·rcases hx with hx|hx
   ·exact (h4 x hx).2.2.1 e.symm
   ·have hx':lo2≤x∧x<hi:=hx;have:=hlv x e.symm;omega
 refine ⟨cs++[v0,v1,v2,v3,v4],fun x=>S x∨Rng lo2 hi x,by simpa using hown,h2.kept hgr ?_,RCells.fr (fun x hx=>hgr.block x (hrow x hx).1 (hrow x hx).2) _ _ (RCells.snoc (RAt.mono (fun x hx=>Or.inr hx) j _ hj) l cs (RCells.mono (fun x hx=>Or.inl hx) l cs h3)),fun x hx => ?_,fun x hx e => ?_⟩
 ·cases hb:kv.ownBlock with
  | none=>exact Or.inl rfl
  | some x=>exact Or.inr (fun e=>h5 x e.symm hb)
 ·refine ⟨?_,Nat.lt_of_lt_of_le (hrow x hx).1 hgr.size,fun e => ?_,fun e => ?_⟩
  ·rcases hx with hx|hx
   ·exact (h4 x hx).1
   ·have hx':lo2≤x∧x<hi:=hx;omega
  ·have e':g=x:=by simpa [Value.ownBlock] using e
   exact hgn x hx e'.symm
  ·rcases hx with hx|hx
   ·exact (h4 x hx).2.2.2 e
   ·have hx':lo2≤x∧x<hi:=hx;have:=hkv x e;omega
 ·have e':g=x:=by simpa [Value.ownBlock] using hx
  subst e'
  rcases hat with hat|hat
  ·exact h5 g hat e
  ·have:=(h2.lt g e).2;omega
theorem JRows.top {lo hi:Nat} {w:World} {l:List Jv} {ks:List Bs} {lv kv:Value} (h:JRows lo w l ks lv kv) (k:Int) (hlo:hi≤lo) (hk:IntOk k) (hl:l.length≤big) (hks:ks.length≤big∧∀ s∈ks,s.length≤big):JTop hi w (.mk k 0 [] l ks) (jV k 0 [] lv kv):=by
 obtain ⟨cs,S,h1,h2,h3,h4,h5⟩:=h
 exact ⟨lv,kv,cs,S,rfl,hk,by unfold IntOk;omega,by simp,hl,hks,h1.mono hlo,h2.mono hlo,h3,fun g hg=>by obtain ⟨a,b,c,d⟩:=h4 g hg;exact ⟨by omega,b,c,d⟩⟩
abbrev bC (l:Bs):List Value:=l.map (fun b=>Value.int .u8 (b.toNat:Int))
def BR (lo:Nat) (w:World) (v:Value) (s:Bs):Prop:=w.ownsRow lo 5 1 v s.length (bC s)
theorem info_byteD:(Tryz.prog.info? 5).map (fun i=>(i.zero,i.size,i.bytes))=some (some (.int .u8 0),1,1):=by kernel_rfl
theorem bC_one (l:Bs):∀ u∈bC l,u.oneCell'=true:=by
 intro u hu
 obtain ⟨b,_,rfl⟩:=List.mem_map.1 hu
 rfl
theorem BR.fr {lo:Nat} {w w':World} {v:Value} {s:Bs} (h:BR lo w v s) (f:Fr NoB w w'):BR lo w' v s:=f.row h (fun _ _ e=>e)
theorem BR.lt {lo:Nat} {w:World} {v:Value} {s:Bs} (h:BR lo w v s) {g:Nat} (hg:v.ownBlock=some g):lo≤g∧g<w.heap.size:=World.ownsRow.lt h g hg
theorem BR.grown {lo:Nat} {w0 w w':World} {v:Value} {s:Bs} (h:BR lo w v s) (f:Fr NoB w0 w) (hg:w.grownBy w' v.ownBlock) (hlo:w0.heap.size≤lo):Fr NoB w0 w':=
 f.grown hg (fun j hj hlt=>absurd (h.lt hj).1 (by omega))
theorem BR.sl {lo:Nat} {w:World} {v:Value} {s:Bs} (h:BR lo w v s) (hs:s≠[]):∃ g c,v=.slice (some ⟨g,0,none⟩) s.length c∧lo≤g∧g<w.heap.size∧∀ (i:Nat) u,(bC s)[i]?=some u→w.cell? ⟨g,i,none⟩=some u:=by
 have hc:=@World.ownsRow.cells _ _ _ _ _ _ _ h
 have hlt:=fun g hg=>h.lt (g:=g) hg
 rcases h.2 with ⟨rfl,h0⟩|⟨g,cap,cur,rfl,hg,hh,_⟩
 ·exact absurd (List.eq_nil_of_length_eq_zero h0) hs
 ·refine ⟨g,cap,rfl,hg,lt_of_block hh,fun i u hu => ?_⟩
  have:=hc (g:=g) rfl i u hu
  rwa [add_at,Nat.zero_add] at this
theorem BR.conv {lo:Nat} {w:World} {v:Value} {s:Bs} (h:BR lo w v s):(convert 81 9 v).run Tryz.prog w=.ok (.string ⟨s.toArray⟩) w:=by
 by_cases hs:s=[]
 ·subst hs
  rcases h.2 with ⟨rfl,_⟩|⟨g,cap,cur,rfl,_⟩
  ·exact run_convert_bytes_nil w 81 5 Tryz.underlying81 Tryz.underlying5 0 0 9 Tryz.underlying9
  ·exact run_convert_bytes_back (P:=Tryz.prog) w 81 9 5 ⟨g,0,none⟩ cap [] Tryz.underlying81 Tryz.underlying5 Tryz.underlying9 (fun j hj=>by simp at hj)
 ·obtain ⟨g,c,rfl,_,_,hc⟩:=h.sl hs
  refine run_convert_bytes_back (P:=Tryz.prog) w 81 9 5 ⟨g,0,none⟩ c s Tryz.underlying81 Tryz.underlying5 Tryz.underlying9 (fun j hj => ?_)
  rw [add_at,Nat.zero_add]
  exact hc j _ (by simp [hj])
theorem br_str {ops:Array Oper} {rest:List Oper} {o:Oper} {a:Act} {Q:Exit→Act→World→Prop} {w:World} (hgd:o.guard=none) (sl x:Operand)
  (ho:o.op=.call { callee:=.builtin .append,args := #[sl,x],argTypes := #[81,9] }) (lo:Nat) (v:Value) (s:Bs) (hs:a.eval sl=v) (hown:BR lo w v s) (t:Bs) (hx:a.eval x=.string ⟨t.toArray⟩)
  (hsz:s.length+t.length≤140737488355328) (hlo:lo≤w.heap.size) (h:∀ v' w',BR lo w' v' (s++t)→w.grownBy w' v.ownBlock→wpList Tryz.prog ops Q rest (a.put o.dst v') w'):wpList Tryz.prog ops Q (o::rest) a w:=by
 obtain ⟨i0,hi0,hz0,hz1,hz2⟩:=info_parts info_byteD
 have hts:(⟨t.toArray⟩:ByteArray).size=t.length:=by show t.toArray.size=_;simp
 have hsc:Lib.strCells ⟨t.toArray⟩=bC t:=rfl
 refine Lib.wpList_append_own_string w hgd sl x 81 9 ho lo 5 i0 Tryz.underlying81 Tryz.underlying9 hi0 hz0 hz1 hz2 v s.length (bC s) hs hown ⟨t.toArray⟩ hx (by rw [hts];unfold maxLen;omega) (by rw [hts];exact hsz) hlo (fun v' w' h1 h2 _=>h v' w' ?_ h2)
 unfold BR
 rw [hts,hsc] at h1
 simpa using h1
theorem br_row {ops:Array Oper} {rest:List Oper} {o:Oper} {a:Act} {Q:Exit→Act→World→Prop} {w:World} (hgd:o.guard=none) (sl x:Operand)
  (ho:o.op=.call { callee:=.builtin .append,args := #[sl,x],argTypes := #[81,81] }) (lo:Nat) (v:Value) (s:Bs) (hs:a.eval sl=v) (hown:BR lo w v s) (g m c:Nat) (t:Bs) (hx:a.eval x=.slice (some ⟨g,0,none⟩) m c) (hm:t.length=m)
  (hc:∀ (i:Nat) u,(bC t)[i]?=some u→w.cell? ⟨g,i,none⟩=some u)
  (hsz:s.length+t.length≤140737488355328) (hlo:lo≤w.heap.size) (h:∀ v' w',BR lo w' v' (s++t)→w.grownBy w' v.ownBlock→wpList Tryz.prog ops Q rest (a.put o.dst v') w'):wpList Tryz.prog ops Q (o::rest) a w:=by
 obtain ⟨i0,hi0,hz0,hz1,hz2⟩:=info_parts info_byteD
 subst hm
 refine wpList_append_own w hgd sl x 81 ho lo 5 i0 (.int .u8 0) 1 1 Tryz.underlying81 hi0 hz0 hz1 hz2 rfl (by decide) v s.length (bC s) hs hown ⟨g,0,none⟩ t.length c (bC t) hx (by simp) (fun j u hu=>by rw [add_at,Nat.zero_add];exact hc j u hu) (bC_one t) (by unfold maxLen;omega) (by omega) hlo (fun v' w' h1 h2 _=>h v' w' ?_ h2)
 unfold BR
 simpa using h1
theorem new_cells (w:World) (C:Array Value) (t:Bs) (h:C.toList=bC t):∀ (i:Nat) u,(bC t)[i]?=some u→(w.alloc (.cells C 5)).cell? ⟨w.heap.size,i,none⟩=some u:=by
 intro i u hu
 rw [World.cell?_alloc_mark,← Array.getElem?_toList,h]
 exact hu
theorem BR.first (w:World) (C:Array Value) (t:Bs) (h:C.toList=bC t) (hl:t.length≤maxLen):BR w.heap.size (w.alloc (.cells C 5)) (.slice (some ⟨w.heap.size,0,none⟩) t.length t.length) t:=by
 have hs:C.size=t.length:=by rw [← Array.length_toList,h];simp
 exact ⟨by simp,Or.inr ⟨_,_,C,rfl,Nat.le_refl _,heap_alloc_new w _,Nat.le_refl _,hl,by rw [hs];omega,by rw [h,Nat.mul_one];exact List.take_of_length_le (by simp)⟩⟩
theorem step_copy_blk {ops:Array Oper} {o:Oper} {a:Act} {w:World} {K:Act→World→Prop} {Q:Exit→Act→World→Prop} {E:Prop} (hgd:o.guard=none) (d s:Operand) (dT sT:TypeId)
  (ho:o.op=.call { callee:=.builtin .copy,args := #[d,s],argTypes := #[dT,sT] }) (elem:TypeId) (hu:Tryz.prog.underlying dT=some (.slice elem)) (hsz:(Tryz.prog.info? elem).map (·.size)=some 1)
  (g off dLen dCap:Nat) (ad:Addr) (sLen sCap:Nat) (hd:a.eval d=.slice (some ⟨g,off,none⟩) dLen dCap) (hs:a.eval s=.slice (some ad) sLen sCap)
  (cur:Array Value) (t:TypeId) (hg:Blk w g t cur) (cs:List Value) (hn:cs.length=Nat.min sLen dLen)
  (hsrc:∀ j v,cs[j]?=some v→w.cell? (ad.add j)=some v) (hfit:off+cs.length≤cur.size) (h1:∀ v∈cs,v.oneCell'=true)
  (new:Array Value) (hnew:(cur.toList.take off++cs++cur.toList.drop (off+cs.length)).toArray=new) (hKK:∀ w',Blk w' g t new→Fr (Only g) w w'→K (a.put o.dst (goInt cs.length)) w') :
  if Region.wanted o (yielded ops a.tmps)=true then Oper.wp Tryz.prog o a w K Q else E:=by
 have hw:Region.wanted o (yielded ops a.tmps)=true:=by simp [Region.wanted,hgd]
 have hK:=hKK (w.setRow g new) (hg.setRow new) (Fr.rowO w g new)
 subst hnew
 rw [if_pos hw]
 have hrun:=run_copy_row (P:=Tryz.prog) w dT sT o.type elem g off dLen dCap ad sLen sCap cur t cs hu hsz hg hn hsrc hfit h1
 unfold Oper.wp
 simp [execOp,ho,resolve,invoke,builtin,hd,hs,hrun,Result.andThen]
 simp only [List.append_assoc] at hK
 exact hK
theorem run_copy_str (w:World) (dT sT ty elem:TypeId) (g o dLen dCap:Nat) (s:Bs) (n:Nat) (cur:Array Value) (t:TypeId)
  (hu:Tryz.prog.underlying dT=some (.slice elem)) (hs:(Tryz.prog.info? elem).map (·.size)=some 1)
  (hg:Blk w g t cur) (hn:n=Nat.min s.length dLen) (hfit:o+n≤cur.size) :
  (Builtin.copy_ #[dT,sT] ty #[.slice (some ⟨g,o,none⟩) dLen dCap,.string ⟨s.toArray⟩]).run Tryz.prog w =
   .ok (goInt n) (w.setRow g (cur.toList.take o++bC (s.take n)++cur.toList.drop (o+n)).toArray):=by
 have hl:(bC (s.take n)).length=n:=by simp;rw [hn];exact Nat.min_eq_left (Nat.min_le_left _ _)
 have hst:=run_storeCells_at Tryz.prog g o t (bC (s.take n)) 0 cur w hg (by rw [hl];simpa using hfit) (bC_one _)
 rw [hl] at hst
 cases hq:Tryz.prog.info? elem with
 | none=>simp [hq] at hs
 | some i=>
  have hi:i.size=1:=by simpa [hq] using hs
  have hz:(⟨s.toArray⟩:ByteArray).size=s.length:=by show s.toArray.size=_;simp
  simp [Builtin.copy_,run_underlying hu,Builtin.lenOf,Builtin.firstCells,sizeOf,typeInfo,hq,hz,← hn]
  rw [show bC (s.take n)=(s.map (fun b=>Value.int IntKind.u8 (b.toNat:Int))).take n from List.map_take] at hst
  rw [hst]
  simp
theorem step_copy_str {ops:Array Oper} {o:Oper} {a:Act} {w:World} {K:Act→World→Prop} {Q:Exit→Act→World→Prop} {E:Prop} (hgd:o.guard=none) (d s:Operand) (dT sT:TypeId)
  (ho:o.op=.call { callee:=.builtin .copy,args := #[d,s],argTypes := #[dT,sT] }) (elem:TypeId) (hu:Tryz.prog.underlying dT=some (.slice elem)) (hsz:(Tryz.prog.info? elem).map (·.size)=some 1)
  (g off dLen dCap:Nat) (t8:Bs) (hd:a.eval d=.slice (some ⟨g,off,none⟩) dLen dCap) (hs:a.eval s=.string ⟨t8.toArray⟩)
  (cur:Array Value) (t:TypeId) (hg:Blk w g t cur) (n:Nat) (hn:n=Nat.min t8.length dLen) (hfit:off+n≤cur.size)
  (new:Array Value) (hnew:(cur.toList.take off++bC (t8.take n)++cur.toList.drop (off+n)).toArray=new) (hKK:∀ w',Blk w' g t new→Fr (Only g) w w'→K (a.put o.dst (goInt n)) w') :
  if Region.wanted o (yielded ops a.tmps)=true then Oper.wp Tryz.prog o a w K Q else E:=by
 have hw:Region.wanted o (yielded ops a.tmps)=true:=by simp [Region.wanted,hgd]
 have hK:=hKK (w.setRow g new) (hg.setRow new) (Fr.rowO w g new)
 subst hnew
 rw [if_pos hw]
 have hrun:=run_copy_str w dT sT o.type elem g off dLen dCap t8 n cur t hu hsz hg hn hfit
 unfold Oper.wp
 simp only [execOp,ho,resolve,invoke,builtin,Sem.run_bind,Sem.run_pure,Result.andThen_ok,List.map_toArray,List.map_cons,List.map_nil,hd,hs,hrun]
 exact hK
end Go.Proofs.YtbifjamddbpcjaaGreatDoor
