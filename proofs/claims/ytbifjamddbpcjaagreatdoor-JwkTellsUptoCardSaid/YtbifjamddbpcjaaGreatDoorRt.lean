/- JSON, the document's side: Same, at two values that read as one (the jwk seat). -/
import Derived.Test.YtbifjamddbpcjaaGreatDoorYm
import Derived.Test.YtbifjamddbpcjaaGreatDoorUp
namespace Go.Proofs.YtbifjamddbpcjaaGreatDoor
theorem J4 {c:UInt8} (h:c∈qL):c=32\/c=9\/c=10\/c=13:=by simpa [qL] using h
theorem N6:∀ k:Fin 10,lE (UInt8.ofNat (48+k.val))=true/\(UInt8.ofNat (48+k.val)).toNat=48+k.val:=by decide
theorem J5 {k:Nat} (h:k<10):lE (UInt8.ofNat (48+k))=true/\(UInt8.ofNat (48+k)).toNat=48+k:=N6 ⟨k,h⟩
theorem Ef (u:Nat):∀ c∈Lib.decDigits u,lE c=true:=by
 intro c hc;rw [Lib.decDigits] at hc;split at hc
 ·rename_i h
  rw [List.mem_singleton] at hc;subst hc;exact (J5 h).1
 ·rename_i h
  rcases List.mem_append.1 hc with hc|hc
  ·exact Ef (u / 10) c hc
  ·rw [List.mem_singleton] at hc;subst hc;exact (J5 (by omega)).1
termination_by u
theorem RF (u:Nat):Lib.decDigits u≠[]:=by
 intro h;have h1:=Lib.decDigits_length u;have h2:=Lib.nDigits_pos u;rw [h] at h1;simp only [List.length_nil] at h1;omega
theorem FY (n:Int):∃ c t,Lib.itoa n=c::t/\(lE c=true\/c=45):=by
 unfold Lib.itoa;split
 ·exact ⟨_,_,rfl,Or.inr rfl⟩
 ·have hd:=Ef n.toNat;have h2:=RF n.toNat
  revert hd h2
  cases Lib.decDigits n.toNat with
  | nil=>intro _ h;exact absurd rfl h
  | cons c t=>intro hd _;exact ⟨c,t,rfl,Or.inl (hd c (by simp))⟩
mutual
def IH:Jv->Bool
 | .mk k i t l ks=>aW k i t l.length ks&&FZ l
def FZ:List Jv->Bool
 | []=>true
 | j::r=>IH j&&FZ r
end
theorem zL:∀ {l:List Jv},FZ l=true->∀ x∈l,IH x=true
 | [],_,x,hx=>by simp at hx
 | j::r,h,x,hx=>by
  rw [FZ,Bool.and_eq_true] at h;rcases List.mem_cons.1 hx with rfl|hx
  ·exact h.1
  ·exact zL h.2 x hx
theorem Eg:∀ {l:List Jv},(∀ x∈l,IH x=true)->FZ l=true
 | [],_=>rfl
 | j::r,h=>by rw [FZ,h j (by simp),Eg (fun x hx=>h x (by simp [hx]))];rfl
theorem sG:∀ (j:Jv) (n:Nat),aw n j=0->IH j=true
 | .mk k i t l ks,n,h=>by
  obtain ⟨hf,hc⟩:=mo n k i t l ks h;rw [IH,hf,Bool.true_and];refine Eg fun x hx=>sG x (n+1) (iy _ _ hc x hx)
termination_by j=>SizeOf.sizeOf j
decreasing_by
 have:=List.sizeOf_lt_of_mem hx
 simp_wf
 omega
theorem J6 (j:Jv) (h:IH j=true):∃ c u,br j=c::u/\c ∉ qL/\c≠93/\c≠125/\c≠44:=by
 cases j with
 | mk k i t l ks=>
  rw [br];split
  ·exact ⟨_,_,rfl,by decide,by decide,by decide,by decide⟩
  ·split
   ·exact ⟨_,_,rfl,by decide,by decide,by decide,by decide⟩
   ·split
    ·exact ⟨_,_,rfl,by decide,by decide,by decide,by decide⟩
    ·split
     ·obtain ⟨c,u,hc,hh⟩:=FY i;refine ⟨c,u,hc,?_⟩;have hne:∀ x:UInt8,lE x=false->x≠45->c≠x:=fun x hx RG e=>by
       subst e;rcases hh with hh|hh
       ·rw [hx] at hh;cases hh
       ·exact RG hh
      refine ⟨fun hb => ?_,hne _ (by decide) (by decide),hne _ (by decide) (by decide),hne _ (by decide) (by decide)⟩;rcases J4 hb with e|e|e|e
      ·exact hne 32 (by decide) (by decide) e
      ·exact hne 9 (by decide) (by decide) e
      ·exact hne 10 (by decide) (by decide) e
      ·exact hne 13 (by decide) (by decide) e
     ·split
      ·exact ⟨34,_,rfl,by decide,by decide,by decide,by decide⟩
      ·split
       ·exact ⟨123,_,rfl,by decide,by decide,by decide,by decide⟩
       ·exact ⟨91,_,rfl,by decide,by decide,by decide,by decide⟩
def zM (obj:Bool) (l:List Jv) (ks:List Bs):List (Bs×Jv):=(aO obj ks l.length).map (fun p=>(af ks p,l.getD p Jv.pq))
theorem vo {α:Type} (l:List α) (a:α):(List.range l.length).map (fun p=>l.getD p a)=l:=by
 apply List.ext_getElem
 ·simp
 ·intro i h1 h2;simp at h1;simp [List.getD,h1]
theorem Ct {l:List Jv} {ks:List Bs} (hl:ks.length=l.length):((zM true l ks).map Prod.fst).Perm ks:=by
 have e:(zM true l ks).map Prod.fst=(aO true ks l.length).map (af ks):=by unfold zM;rw [List.map_map];rfl
 rw [e];have:=(iz true ks l.length).map (af ks);rw [<- hl] at this ⊢;have e2:(List.range ks.length).map (af ks)=ks:=vo ks [];rwa [e2] at this
theorem J7 {a b c:Bs} (h1:a<=b) (h2:b<=c):a<=c:=List.le_trans h1 h2
theorem J8 (a b:Bs):a<=b\/b<=a:=List.le_total a b
theorem xH (ks:List Bs) (n:Nat):(aO true ks n).Pairwise (fun a b=>af ks a<=af ks b):=by
 unfold aO;rw [if_pos rfl];have:=List.pairwise_mergeSort (le:=fun a b=>decide (af ks a<=af ks b)) (fun a b c h1 h2=>by simp only [decide_eq_true_eq] at *;exact J7 h1 h2) (fun a b=>by simpa using J8 (af ks a) (af ks b)) (List.range n);exact this.imp (fun h=>by simpa using h)
def aU (l:List Jv) (ks:List Bs):List Bs:=(aO true ks l.length).map (af ks)
theorem cG (l:List Jv) (ks:List Bs):(aU l ks).length=l.length:=by simp [aU,bW]
theorem xI (l:List Jv) (ks:List Bs):(aU l ks).Pairwise (· <= ·):=by
 unfold aU;rw [List.pairwise_map];exact xH ks l.length
theorem nz {l:List Jv} {ks:List Bs} (hl:ks.length=l.length):(aU l ks).Perm ks:=by
 have e:aU l ks=(zM true l ks).map Prod.fst:=by unfold zM aU;rw [List.map_map];rfl
 rw [e];exact Ct hl
open Go.RowKit
theorem J9 {w:World} {lo hi:Nat} {e:TypeId} {size n:Nat} {v:Value} {xs:List Value} (h:w.ownsRow hi e size v n xs) (hle:lo<=hi):w.ownsRow lo e size v n xs:=by
 refine ⟨h.1,?_⟩;rcases h.2 with h2|⟨g,cap,cur,hv,hg,r⟩
 ·exact Or.inl h2
 ·exact Or.inr ⟨g,cap,cur,hv,Nat.le_trans hle hg,r⟩
def ux (S0:Nat->Prop) (lo hi:Nat):Nat->Prop:=fun g=>S0 g\/(lo<=g/\g<hi)
def cw (S0:Nat->Prop) (lo:Nat) (w:World) (l:List Jv) (ks:List Bs) (lv kv:Value):Prop:=
 ∃ (cs:List Value) (T:Nat->Prop),w.ownsRow lo 31 5 lv l.length cs/\w.ownsRow lo 9 1 kv ks.length (ks.map sV)/\aq T w l cs /\
  (∀ g,T g->(S0 g\/lo<=g)/\g<w.heap.size/\lv.ownBlock≠some g/\kv.ownBlock≠some g)/\(∀ g,lv.ownBlock=some g->kv.ownBlock≠some g)
section
variable {S0:Nat->Prop} {lo:Nat} {w w1:World} {l:List Jv} {ks:List Bs} {lv kv:Value}
theorem cw.N7 {X:Nat->Prop} (h:cw S0 lo w l ks lv kv) (f:Fr X w w1) (hX:∀ g,X g->¬ S0 g/\g<lo):cw S0 lo w1 l ks lv kv:=by
 obtain ⟨cs,T,h1,h2,h3,h4,h5⟩:=h;have hT:∀ g,T g->¬ X g:=fun g hg e=>by
  obtain ⟨a,_⟩:=h4 g hg;obtain ⟨b,c⟩:=hX g e;rcases a with a|a
  ·exact b a
  ·omega
 refine ⟨cs,T,f.row h1 (fun g hg e=>by have:=(h1.lt g hg).1;have:=(hX g e).2;omega),f.row h2 (fun g hg e=>by have:=(h2.lt g hg).1;have:=(hX g e).2;omega),aq.fr (fun g hg=>f.block g (h4 g hg).2.1 (hT g hg)) l cs h3,fun g hg => ?_,h5⟩;obtain ⟨a,b,c,d⟩:=h4 g hg;exact ⟨a,Nat.lt_of_lt_of_le b f.size,c,d⟩
theorem cw.fr (h:cw S0 lo w l ks lv kv) (f:Fr NoB w w1):cw S0 lo w1 l ks lv kv:=h.N7 f (fun _ e=>e.elim)
theorem cw.Uu (h:cw S0 lo w l ks lv kv):∃ a c,lv=.slice a l.length c:=by
 obtain ⟨cs,T,h1,h2,h3,h4,h5⟩:=h;rcases h1.2 with ⟨e1,e2⟩|⟨g1,c1,u1,e1,_⟩
 ·exact ⟨none,0,by rw [e1,e2]⟩
 ·exact ⟨_,_,e1⟩
theorem cw.RH (h:cw S0 lo w l ks lv kv):∃ a c,kv=.slice a ks.length c:=by
 obtain ⟨cs,T,h1,h2,h3,h4,h5⟩:=h;rcases h2.2 with ⟨e1,e2⟩|⟨g1,c1,u1,e1,_⟩
 ·exact ⟨none,0,by rw [e1,e2]⟩
 ·exact ⟨_,_,e1⟩
theorem cw.RI (h:cw S0 lo w l ks lv kv):(∀ g,lv.ownBlock=some g->lo<=g/\g<w.heap.size)/\(∀ g,kv.ownBlock=some g->lo<=g/\g<w.heap.size):=by
 obtain ⟨cs,T,h1,h2,h3,h4,h5⟩:=h;exact ⟨fun g hg=>h1.lt g hg,fun g hg=>h2.lt g hg⟩
theorem cw.keys (h:cw S0 lo w l ks lv kv):w.ownsRow lo 9 1 kv ks.length (ks.map sV):=by
 obtain ⟨cs,T,h1,h2,h3,h4,h5⟩:=h;exact h2
theorem cw.F0 (h:cw S0 lo w l ks lv kv):∃ cs,w.ownsRow lo 31 5 lv l.length cs:=by
 obtain ⟨cs,T,h1,h2,h3,h4,h5⟩:=h;exact ⟨cs,h1⟩
theorem cw.key (h:cw S0 lo w l ks lv kv) (key:Bs) (g cap:Nat)
  (hown:w1.ownsRow lo 9 1 (.slice (some ⟨g,0,none⟩) (ks.length+1) cap) (ks.length+1) (ks.map sV++[sV key])) (hgr:w.grownBy w1 kv.ownBlock) (hat:kv.ownBlock=some g\/g=w.heap.size) :
  cw S0 lo w1 l (ks++[key]) lv (.slice (some ⟨g,0,none⟩) (ks.length+1) cap):=by
 obtain ⟨cs,T,h1,h2,h3,h4,h5⟩:=h;have hl:∀ x,lv.ownBlock=some x->x≠g:=fun x hx e=>by
  subst e;rcases hat with hat|hat
  ·exact h5 x hx hat
  ·have:=(h1.lt x hx).2;omega
 refine ⟨cs,T,h1.kept hgr ?_,by simpa using hown,aq.fr (fun x hx=>hgr.block x (h4 x hx).2.1 (fun e=>(h4 x hx).2.2.2 e.symm)) l cs h3,fun x hx => ?_,fun x hx e => ?_⟩
 ·cases hb:lv.ownBlock with
  | none=>exact Or.inl rfl
  | some x=>exact Or.inr (fun e=>h5 x hb e.symm)
 ·obtain ⟨a,b,c,d⟩:=h4 x hx;refine ⟨a,Nat.lt_of_lt_of_le b hgr.size,c,fun e => ?_⟩;have e':g=x:=by simpa [Value.ownBlock] using e
  subst e';rcases hat with hat|hat
  ·exact d hat
  ·omega
 ·have e':g=x:=by simpa [Value.ownBlock] using e
  exact hl x hx e'.symm
theorem cw.item {lo2 hi:Nat} (h:cw S0 lo w l ks lv kv) (hS:∀ g,S0 g->g<lo) {j:Jv} {v0 v1 v2 v3 v4:Value} (hj:aG (ux S0 lo2 hi) w j (.agg #[v0,v1,v2,v3,v4]))
  (cN:lo<=lo2) (lC:hi<=w.heap.size) (hw:lo<=w.heap.size) (hlv:∀ g,lv.ownBlock=some g->g<lo2) (qE:∀ g,kv.ownBlock=some g->g<lo2) (g cap:Nat) {cs:List Value}
  (hcs:w.ownsRow lo 31 5 lv l.length cs)
  (hown:w1.ownsRow lo 31 5 (.slice (some ⟨g,0,none⟩) (l.length+1) cap) (l.length+1) (cs++[v0,v1,v2,v3,v4])) (hgr:w.grownBy w1 lv.ownBlock) (hat:lv.ownBlock=some g\/g=w.heap.size) :
  cw S0 lo w1 (l++[j]) ks (.slice (some ⟨g,0,none⟩) (l.length+1) cap) kv:=by
 obtain ⟨cs',T,h1,h2,h3,h4,h5⟩:=h;have hce:cs=cs':=by
  rcases h1.2 with ⟨e1,e2⟩|⟨g1,c1,u1,e1,e2,e3,e4,e5,e6,e7⟩
  ·have a:=h1.1;have b:=hcs.1;rw [e2] at a b;simp at a b;rw [a,b]
  ·rcases hcs.2 with ⟨f1,f2⟩|⟨g2,c2,u2,f1,f2,f3,f4,f5,f6,f7⟩
   ·rw [e1] at f1;cases f1
   ·rw [e1] at f1;simp at f1;obtain ⟨rfl,rfl⟩:=f1;rw [e3] at f3;simp at f3;subst f3;rw [<- e7,<- f7]
 subst hce;have Ga:∀ x,ux S0 lo2 hi x->x<lo\/(lo2<=x/\x<hi):=fun x hx=>hx.imp (hS x) id;have P7:∀ x,lv.ownBlock=some x->lo<=x:=fun x hx=>(h1.lt x hx).1;have VZ:∀ x,kv.ownBlock=some x->lo<=x:=fun x hx=>(h2.lt x hx).1;have YM:∀ x,(T x\/ux S0 lo2 hi x)->x≠g:=fun x hx e=>by
  subst e;rcases hx with hx|hx
  ·rcases hat with hat|hat
   ·exact (h4 x hx).2.2.1 hat
   ·have:=(h4 x hx).2.1;omega
  ·have vp:=Ga x hx;rcases hat with hat|hat
   ·have:=hlv x hat;have:=P7 x hat;omega
   ·omega
 have dX:∀ x,(T x\/ux S0 lo2 hi x)->x<w.heap.size/\some x≠lv.ownBlock:=fun x hx=>by
  refine ⟨?_,fun e => ?_⟩
  ·rcases hx with hx|hx
   ·exact (h4 x hx).2.1
   ·have vp:=Ga x hx;omega
  ·rcases hx with hx|hx
   ·exact (h4 x hx).2.2.1 e.symm
   ·have vp:=Ga x hx;have:=hlv x e.symm;have:=P7 x e.symm;omega
 refine ⟨cs++[v0,v1,v2,v3,v4],fun x=>T x\/ux S0 lo2 hi x,by simpa using hown,h2.kept hgr ?_,aq.fr (fun x hx=>hgr.block x (dX x hx).1 (dX x hx).2) _ _ (aq.snoc (aG.mono (fun x hx=>Or.inr hx) j _ hj) l cs (aq.mono (fun x hx=>Or.inl hx) l cs h3)),fun x hx => ?_,fun x hx e => ?_⟩
 ·cases hb:kv.ownBlock with
  | none=>exact Or.inl rfl
  | some x=>exact Or.inr (fun e=>h5 x e.symm hb)
 ·refine ⟨?_,Nat.lt_of_lt_of_le (dX x hx).1 hgr.size,fun e => ?_,fun e => ?_⟩
  ·rcases hx with hx|hx
   ·exact (h4 x hx).1
   ·rcases hx with hx|hx
    ·exact Or.inl hx
    ·exact Or.inr (by omega)
  ·have e':g=x:=by simpa [Value.ownBlock] using e
   exact YM x hx e'.symm
  ·rcases hx with hx|hx
   ·exact (h4 x hx).2.2.2 e
   ·have vp:=Ga x hx;have:=qE x e;have:=VZ x e;omega
 ·have e':g=x:=by simpa [Value.ownBlock] using hx
  subst e';rcases hat with hat|hat
  ·exact h5 g hat e
  ·have:=(h2.lt g e).2;omega
theorem cw.cells {b:Nat} (h:cw S0 lo w l ks lv kv) (hb:b<=lo):∃ cs,aq (ux S0 b w.heap.size) w l cs/\aT (ux S0 b w.heap.size) w lv l.length cs/\aT (ux S0 b w.heap.size) w kv ks.length (ks.map sV):=by
 obtain ⟨cs,T,h1,h2,h3,h4,h5⟩:=h;have hm:∀ g,lB lo w.heap.size g->ux S0 b w.heap.size g:=fun g hg=>Or.inr ⟨Nat.le_trans hb hg.1,hg.2⟩;refine ⟨cs,aq.mono (fun g hg => ?_) l cs h3,(aT.own h1).mono hm,(aT.own h2).mono hm⟩;obtain ⟨a,c,_⟩:=h4 g hg;exact a.imp id (fun e=>⟨Nat.le_trans hb e,c⟩)
end
theorem xJ:∀ {l:List Jv} {x:Jv},x∈l->iY x<=uH l
 | [],x,h=>by simp at h
 | j::r,x,h=>by
  rcases List.mem_cons.1 h with rfl|h
  ·simp only [uH];omega
  ·have:=xJ h;simp only [uH];omega
theorem aT.P8 {S:Nat->Prop} {w u:World} {a:Option Addr} {n c:Nat} {cs:List Value} (h:aT S w (.slice a n c) n cs) (hS:∀ g,S g->g<w.heap.size) (f:Fr NoB w u) (hn:0<n):∃ g o,a=some ⟨g,o,none⟩/\∀ (i:Nat) x,cs[i]?=some x->u.cell? ⟨g,o+i,none⟩=some x:=by
 rcases h with ⟨h0,_⟩|⟨g,o,c',he,hg,hc⟩
 ·omega
 ·simp only [Value.slice.injEq,true_and] at he;exact ⟨g,o,he.1,fun i x hx=>(f.cell (p:=⟨g,o+i,none⟩) (hS g hg) (fun e=>e)).trans (hc i x hx)⟩
theorem RJ {v0 v1 v2 v3 v4:Value} (h:(#[v0,v1,v2,v3,v4].all (·.oneCell'))=true):∀ u∈[v0,v1,v2,v3,v4],u.oneCell'=true:=by
 intro u hu;have:=Array.all_eq_true_iff_forall_mem.1 h;exact this u (by simpa using hu)
end Go.Proofs.YtbifjamddbpcjaaGreatDoor
namespace Go.Proofs.YtbifjamddbpcjaaGreatDoor
set_option maxRecDepth 100000
set_option maxHeartbeats 25600000
open Go.RowKit
theorem NH (k i:Int) (t:Bs) (l:List Jv) (ks:List Bs) (la lb ka kb:Option Addr) (c1 c2 c3 c4:Nat) (w:World) (iB:l.length<=big) (jU:ks.length<=big)
  (hka:aT (All w) w (.slice ka ks.length c3) ks.length (ks.map sV)) (hkb:aT (All w) w (.slice kb ks.length c4) ks.length (ks.map sV))
  (cs ds:List Value) (hcs:aq (All w) w l cs) (Ro:aq (All w) w l ds) (DY:aT (All w) w (.slice la l.length c1) l.length cs) (EZ:aT (All w) w (.slice lb l.length c2) l.length ds) (tX:∀ x∈l,SM x) :
  Calls Tryz.prog 14 #[jV k i t (.slice la l.length c1) (.slice ka ks.length c3),jV k i t (.slice lb l.length c2) (.slice kb ks.length c4)] w fun e w'=>e=.returned (.bool true)/\Fr NoB w w':=by
 unfold big at iB jU;have f0:Fr NoB w ((w.alloc (.cells #[.int .i64 k,.int .i64 i,.string ⟨t.toArray⟩,.slice la l.length c1,.slice ka ks.length c3] 31)).alloc (.cells #[.int .i64 k,.int .i64 i,.string ⟨t.toArray⟩,.slice lb l.length c2,.slice kb ks.length c4] 31)):=((Fr.refl _ _).alloc _).alloc _;have gA:Blk ((w.alloc (.cells #[.int .i64 k,.int .i64 i,.string ⟨t.toArray⟩,.slice la l.length c1,.slice ka ks.length c3] 31)).alloc (.cells #[.int .i64 k,.int .i64 i,.string ⟨t.toArray⟩,.slice lb l.length c2,.slice kb ks.length c4] 31)) w.heap.size 31 #[.int .i64 k,.int .i64 i,.string ⟨t.toArray⟩,.slice la l.length c1,.slice ka ks.length c3]:=(Blk.new w 31 _).alloc _;have gB:Blk ((w.alloc (.cells #[.int .i64 k,.int .i64 i,.string ⟨t.toArray⟩,.slice la l.length c1,.slice ka ks.length c3] 31)).alloc (.cells #[.int .i64 k,.int .i64 i,.string ⟨t.toArray⟩,.slice lb l.length c2,.slice kb ks.length c4] 31)) (w.heap.size+1) 31 #[.int .i64 k,.int .i64 i,.string ⟨t.toArray⟩,.slice lb l.length c2,.slice kb ks.length c4]:=by
  have:=Blk.new (w.alloc (.cells #[.int .i64 k,.int .i64 i,.string ⟨t.toArray⟩,.slice la l.length c1,.slice ka ks.length c3] 31)) 31 #[.int .i64 k,.int .i64 i,.string ⟨t.toArray⟩,.slice lb l.length c2,.slice kb ks.length c4];simpa using this
 generalize hW:(w.alloc (.cells #[.int .i64 k,.int .i64 i,.string ⟨t.toArray⟩,.slice la l.length c1,.slice ka ks.length c3] 31)).alloc (.cells #[.int .i64 k,.int .i64 i,.string ⟨t.toArray⟩,.slice lb l.length c2,.slice kb ks.length c4] 31)=W at f0 gA gB;have HW:=hd' hW;have Ui:Hid (∀ u,Fr NoB W u->u.cell? ⟨w.heap.size,3,none⟩=some (.slice la l.length c1)/\u.cell? ⟨w.heap.size,4,none⟩=some (.slice ka ks.length c3)/\u.cell? ⟨w.heap.size+1,3,none⟩=some (.slice lb l.length c2)/\u.cell? ⟨w.heap.size+1,4,none⟩=some (.slice kb ks.length c4)):=hd' (fun u f=>by
  have a:=f.blk gA (fun e=>e);have b:=f.blk gB (fun e=>e);exact ⟨(a.cell 3).trans rfl,(a.cell 4).trans rfl,(b.cell 3).trans rfl,(b.cell 4).trans rfl⟩)
 have a0:W.cell? ⟨w.heap.size,0,none⟩=some (.int .i64 k):=(gA.cell 0).trans rfl;have a1:W.cell? ⟨w.heap.size,1,none⟩=some (.int .i64 i):=(gA.cell 1).trans rfl;have a2:W.cell? ⟨w.heap.size,2,none⟩=some (.string ⟨t.toArray⟩):=(gA.cell 2).trans rfl;have a3:W.cell? ⟨w.heap.size,3,none⟩=some (.slice la l.length c1):=(gA.cell 3).trans rfl;have a4:W.cell? ⟨w.heap.size,4,none⟩=some (.slice ka ks.length c3):=(gA.cell 4).trans rfl;have b0:W.cell? ⟨w.heap.size+1,0,none⟩=some (.int .i64 k):=(gB.cell 0).trans rfl;have b1:W.cell? ⟨w.heap.size+1,1,none⟩=some (.int .i64 i):=(gB.cell 1).trans rfl;have b2:W.cell? ⟨w.heap.size+1,2,none⟩=some (.string ⟨t.toArray⟩):=(gB.cell 2).trans rfl;have b3:W.cell? ⟨w.heap.size+1,3,none⟩=some (.slice lb l.length c2):=(gB.cell 3).trans rfl;have b4:W.cell? ⟨w.heap.size+1,4,none⟩=some (.slice kb ks.length c4):=(gB.cell 4).trans rfl;have HA:=hd' (And.intro hka hkb);have HL:=hd' (And.intro (And.intro hcs DY) (And.intro Ro EZ));have BB:=hd' tX;clear hW hka hkb hcs Ro DY EZ tX gA gB;go_enter Tryz.func14,Tryz.ntmps14;go_wp2_with (rw [HW.out]);clear a0 a1 a2 a3 a4 b0 b1 b2 b3 b4;go_loopw [5] (fun v wr=>∃ m:Nat,m<=ks.length/\v=.int .i64 m/\Fr NoB W wr) (fun v _=>ks.length - (intOf v).toNat)
 case atStart=>exact ⟨0,Nat.zero_le _,rfl,Fr.refl _ _⟩
 case round=>
  obtain ⟨m,hm,rfl,hf⟩:=hrel;obtain ⟨x3,x4,y3,y4⟩:=Ui.out wr hf;by_cases hlt:m<ks.length
  ·obtain ⟨ga,oa,rfl,ha⟩:=HA.out.1.at_ (f0.trans hf) (by omega);obtain ⟨gb,ob,rfl,hb⟩:=HA.out.2.at_ (f0.trans hf) (by omega);have da:=ha m (sV ks[m]) (by simp [hlt]);have db:=hb m (sV ks[m]) (by simp [hlt]);generalize ks[m]=q at da db;clear ha hb;have i1:(0:Int)<=m:=by omega
   have i2:(m:Int)<ks.length:=by omega
   go_wp2_with fail;go_quiet (fail);go_wp2_with fail;go_roundw
   case rel=>exact ⟨m+1,by omega,by simp,hf.drewN _⟩
   case measure=>simp [intOf];omega
  ·obtain rfl:m=ks.length:=by omega
   go_wp2_with fail;go_loopw [6] (fun v wr=>∃ m:Nat,m<=l.length/\v=.int .i64 m/\Fr NoB W wr) (fun v _=>l.length - (intOf v).toNat)
   case atStart=>exact ⟨0,Nat.zero_le _,rfl,hf⟩
   case round=>
    obtain ⟨m,hm,rfl,hf⟩:=hrel;obtain ⟨x3,x4,y3,y4⟩:=Ui.out _ hf;by_cases hlt:m<l.length
    ·obtain ⟨⟨hcs,DY⟩,⟨Ro,EZ⟩⟩:=HL.out;obtain ⟨ga,oa,rfl,ha⟩:=DY.at_ (f0.trans hf) (by omega);obtain ⟨gb,ob,rfl,hb⟩:=EZ.at_ (f0.trans hf) (by omega);obtain ⟨v0,v1,v2,v3,v4,p0,p1,p2,p3,p4,hat⟩:=aq.get l cs m hlt hcs;obtain ⟨u0,u1,u2,u3,u4,q0,q1,q2,q3,q4,hbt⟩:=aq.get l ds m hlt Ro;have d0:wr.cell? ⟨ga,oa+m*5,none⟩=some v0:=ha _ _ p0;have d1:wr.cell? ⟨ga,oa+m*5+1,none⟩=some v1:=ha _ _ p1;have d2:wr.cell? ⟨ga,oa+m*5+2,none⟩=some v2:=ha _ _ p2;have d3:wr.cell? ⟨ga,oa+m*5+3,none⟩=some v3:=ha _ _ p3;have d4:wr.cell? ⟨ga,oa+m*5+4,none⟩=some v4:=ha _ _ p4;have e0:wr.cell? ⟨gb,ob+m*5,none⟩=some u0:=hb _ _ q0;have e1:wr.cell? ⟨gb,ob+m*5+1,none⟩=some u1:=hb _ _ q1;have e2:wr.cell? ⟨gb,ob+m*5+2,none⟩=some u2:=hb _ _ q2;have e3:wr.cell? ⟨gb,ob+m*5+3,none⟩=some u3:=hb _ _ q3;have e4:wr.cell? ⟨gb,ob+m*5+4,none⟩=some u4:=hb _ _ q4;(have i1:(0:Int)<=m:=by omega);(have i2:(m:Int)<l.length:=by omega);clear ha hb;go_wp2_with fail;go_still_tail 10,(by kernel_rfl);have fD:Fr NoB W wr.drew:=hf.drew;have HC:=hd' (BB.out l[m] (List.getElem_mem hlt) _ _ wr.drew (hat.all (f0.trans fD)) (hbt.all (f0.trans fD)));clear hat hbt p0 p1 p2 p3 p4 q0 q1 q2 q3 q4 hcs Ro DY EZ;go_wp2_with (go_at_call 14;((with_reducible refine HC.out.mono ?_);rintro e w2 ⟨rfl,f2⟩));go_roundw
     case rel=>exact ⟨m+1,by omega,by simp,fD.trans f2⟩
     case measure=>simp [intOf];omega
    ·obtain rfl:m=l.length:=by omega
     go_wp2_with fail;go_ret;exact ⟨rfl,f0.trans hf⟩
mutual
theorem JK:∀ j:Jv,SM j
 | .mk k i t l ks=>by
  intro va vb w ha hb;simp only [aG] at ha hb;obtain ⟨lv,kv,rfl,hk,hi,ht,gH,hl,cs,hcs,dd⟩:=ha;obtain ⟨lv',Cc,rfl,_,_,_,Vv,_,ds,Ro,Vw⟩:=hb;obtain ⟨la,lc,rfl⟩:=dd.sl;obtain ⟨lb,lc',rfl⟩:=Vw.sl;obtain ⟨ka,kc,rfl⟩:=gH.1.sl;obtain ⟨kb,kc',rfl⟩:=Vv.1.sl;exact NH k i t l ks la lb ka kb lc lc' kc kc' w hl gH.2.1 gH.1 Vv.1 cs ds hcs Ro dd Vw (DZ l)
theorem DZ:∀ (l:List Jv),∀ x∈l,SM x
 | [],x,hx=>absurd hx (by simp)
 | j::r,x,hx=>by
  cases hx with
  | head=>exact JK j
  | tail _ h=>exact DZ r x h
end
theorem JL (j:Jv) (va vb:Value) (w:World) (ha:aG (All w) w j va) (hb:aG (All w) w j vb):Calls Tryz.prog 14 #[va,vb] w fun e w'=>e=.returned (.bool true)/\Fr NoB w w':=JK j va vb w ha hb
end Go.Proofs.YtbifjamddbpcjaaGreatDoor
