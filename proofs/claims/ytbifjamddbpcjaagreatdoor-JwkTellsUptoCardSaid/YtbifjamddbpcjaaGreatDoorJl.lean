/- JSON, plain: which values may be, a value's form, how much it holds. No program. -/
import Derived.Test.YtbifjamddbpcjaaGreatDoorJp
import Derived.Test.YtbifjamddbpcjaaGreatDoorChecked
import Derived.WalkLawsBesides
import Derived.Deep.RegionHeld3
import Derived.Deep.LoopGhost
import Derived.Laws.Tables
import Derived.Laws.Rows
import Derived.StillTailTactics
import Derived.Deep.DeepCutAuto
import Derived.Deep.CutBlock
import Derived.Deep.DrawnRows
import Derived.IntWalk
import Derived.Deep.AppendLies
import Derived.Deep.Onto
import Derived.Laws.Cover4
import Derived.Recover
import Derived.Tactics2
namespace Go.Proofs.YtbifjamddbpcjaaGreatDoor
theorem re (s:Bs):gT s<=s.length:=by unfold gT;exact (List.takeWhile_sublist _).length_le
def cH (k:Int):Bool:=(k==5) || (k==6)
def fj (k:Int) (n:Nat) (ks:List Bs):Bool:=(k==6&&decide ((ks.length:Int)=(n:Int))) || (decide ((ks.length:Int)=0)&&k != 6)
def gL (k i:Int):Bool:=(i==0) || (k==3&&decide (i<=9007199254740991)&&decide (-9007199254740991<=i))
def gg (k:Int) (t:Bs):Bool:=(t==[]) || (k==4&&Lib.validD t)
def aW (k i:Int) (t:Bs) (n:Nat) (ks:List Bs):Bool:=
 (decide (0<=k)&&decide (k<7))&&(cH k || decide ((n:Int)=0))&&fj k n ks&&(ks.all Lib.validD&&decide ks.Nodup)&&gL k i&&gg k t
mutual
def aw:Nat->Jv->Nat
 | n,.mk k i t l ks=>if cH k && !(decide ((n:Int)<32)) then 91 else if aW k i t l.length ks then bI (n+1) l else 93
def bI:Nat->List Jv->Nat
 | _,[]=>0
 | n,j::r=>if aw n j=0 then bI n r else aw n j
end
def af (ks:List Bs) (i:Nat):Bs:=ks.getD i []
def aO (obj:Bool) (ks:List Bs) (n:Nat):List Nat:=if obj then (List.range n).mergeSort (fun a b=>decide (af ks a<=af ks b)) else List.range n
theorem iz (obj:Bool) (ks:List Bs) (n:Nat):(aO obj ks n).Perm (List.range n):=by
 unfold aO;split
 ·exact List.mergeSort_perm _ _
 ·exact List.Perm.refl _
theorem bW (obj:Bool) (ks:List Bs) (n:Nat):(aO obj ks n).length=n:=by rw [(iz obj ks n).length_eq,List.length_range]
theorem mw {obj:Bool} {ks:List Bs} {n m:Nat} (h:m∈aO obj ks n):m<n:=List.mem_range.1 ((iz obj ks n).mem_iff.1 h)
def iH (n:UInt8):UInt8:=if n<10 then 48+n else 87+n
def aK (c:UInt8):Bs:=
 if c=34 then [92,34] else if c=92 then [92,92] else if c=8 then [92,98] else if c=9 then [92,116] else if c=10 then [92,110] else if c=12 then [92,102] else if c=13 then [92,114]
 else if c<32 then [92,117,48,48,iH (c / 16),iH (c % 16)] else [c]
def bJ (s:Bs):Bs:=34::s.flatMap aK++[34]
theorem Dr (c:UInt8):(aK c).length<=6:=by
 unfold aK;repeat' split
 all_goals simp
theorem ow (s:Bs):(s.flatMap aK).length<=6*s.length:=by
 induction s with
 | nil=>simp
 | cons c r ih=>have:=Dr c;simp only [List.flatMap_cons,List.length_append,List.length_cons];omega
def aC:List Bs->Bs
 | []=>[]
 | x::r=>x++r.flatMap (fun y=>44::y)
theorem Ds (a:List Bs) (x:Bs):aC (a++[x])=aC a++((if 0<a.length then [44] else [])++x):=by
 cases a with
 | nil=>simp [aC]
 | cons y r=>simp [aC]
theorem kR (its:List Bs) (m:Nat) (h:m<its.length):aC (its.take (m+1))=aC (its.take m)++((if 0<m then [44] else [])++its[m]):=by
 rw [(List.take_append_getElem h).symm,Ds,List.length_take,Nat.min_eq_left (by omega)]
theorem oI (its:List Bs):∀ m,(aC (its.take m)).length<=(aC its).length:=by
 intro m;cases its with
 | nil=>simp [aC]
 | cons y r=>
  cases m with
  | zero=>simp [aC]
  | succ m=>
   simp only [List.take_succ_cons,aC,List.length_append];have e:(r.flatMap (fun y=>44::y))=((r.take m).flatMap (fun y=>44::y))++((r.drop m).flatMap (fun y=>44::y)):=by rw [<- List.flatMap_append,List.take_append_drop]
   rw [e];simp
theorem GV (its:List Bs):its.length<=(aC its).length+1:=by
 cases its with
 | nil=>simp
 | cons y r=>
  have:∀ r:List Bs,r.length<=(r.flatMap (fun y=>44::y)).length:=by
   intro r;induction r with
   | nil=>simp
   | cons z q ih=>simp only [List.flatMap_cons,List.length_append,List.length_cons];omega
  have:=this r;simp only [aC,List.length_append,List.length_cons];omega
def kh (obj:Bool) (ks fs:List Bs) (p:Nat):Bs:=(if obj then bJ (af ks p)++[58] else [])++fs.getD p []
def dr (obj:Bool) (ks fs:List Bs):List Bs:=(aO obj ks fs.length).map (kh obj ks fs)
theorem CZ (obj:Bool) (ks fs:List Bs):(dr obj ks fs).length=fs.length:=by simp [dr,bW]
mutual
def br:Jv->Bs
 | .mk k i t l ks=>if k=0 then im else if k=1 then eO else if k=2 then jd else if k=3 then Lib.itoa i else if k=4 then bJ t
   else (if k==6 then 123 else 91)::(aC (dr (k==6) ks (cg l))++[if k==6 then 125 else 93])
def cg:List Jv->List Bs
 | []=>[]
 | j::r=>br j::cg r
end
theorem tM:∀ l:List Jv,cg l=l.map br
 | []=>by simp [cg]
 | j::r=>by rw [cg,tM r];rfl
theorem iT (l:List Jv):(cg l).length=l.length:=by rw [tM,List.length_map]
theorem mF (l:List Jv) (p:Nat) (h:p<l.length):(cg l).getD p []=br l[p]:=by rw [tM];simp [List.getD,h]
theorem iy:∀ (n:Nat) (l:List Jv),bI n l=0->∀ x∈l,aw n x=0
 | n,[],_,x,hx=>by simp at hx
 | n,j::r,h,x,hx=>by
  rw [bI] at h;split at h
  ·rename_i hz
   rcases List.mem_cons.1 hx with rfl|hx
   ·exact hz
   ·exact iy n r h x hx
  ·rename_i hz;exact absurd h hz
theorem mo (n:Nat) (k i:Int) (t:Bs) (l:List Jv) (ks:List Bs) (h:aw n (.mk k i t l ks)=0):aW k i t l.length ks=true/\bI (n+1) l=0:=by
 rw [aw] at h;split at h
 ·omega
 ·split at h
  ·rename_i h1 h2;exact ⟨h2,h⟩
  ·omega
theorem jZ {k i:Int} {t:Bs} {n:Nat} {ks:List Bs} (h:aW k i t n ks=true):0<=k/\k<7/\(k=6->ks.length=n/\ks.Nodup):=by
 unfold aW at h;simp only [Bool.and_eq_true,decide_eq_true_eq,fj,Bool.or_eq_true] at h;obtain ⟨⟨⟨⟨⟨⟨h0,h1⟩,_⟩,h3⟩,_,h5⟩,_⟩,_⟩:=h;refine ⟨h0,h1,fun e=>⟨?_,h5⟩⟩;rcases h3 with ⟨_,h3⟩|⟨_,h3⟩
 ·omega
 ·subst e;simp at h3
def cu (j:Jv):Bs×Nat:=if aw 0 j=0 then (if 65536<(br j).length then ([],92) else (br j,0)) else ([],aw 0 j)
def Ei:List Bs->Nat
 | []=>0
 | s::r=>s.length+1+Ei r
mutual
def iY:Jv->Nat
 | .mk _ _ t l ks=>5+t.length+uH l+Ei ks
def uH:List Jv->Nat
 | []=>0
 | j::r=>iY j+uH r
end
theorem qJ:∀ l:List Jv,l.length<=uH l
 | []=>by simp [uH]
 | j::r=>by have:=qJ r;cases j;simp only [uH,iY,List.length_cons];omega
theorem wV:∀ ks:List Bs,ks.length<=Ei ks
 | []=>by simp [Ei]
 | s::r=>by have:=wV r;simp only [Ei,List.length_cons];omega
theorem qK:∀ (ks:List Bs) (s:Bs),s∈ks->s.length<=Ei ks
 | [],s,h=>by simp at h
 | t::r,s,h=>by
  rcases List.mem_cons.1 h with rfl|h
  ·simp only [Ei];omega
  ·have:=qK r s h;simp only [Ei];omega
theorem kd {s t:Bs} {n:Nat} (h:eL s=some (n,t)):t.length+6=s.length:=by
 unfold eL at h;split at h
 ·split at h
  ·cases h;simp
  ·cases h
 ·cases h
theorem L5 {s t r:Bs} (h:I5 s=some (t,r)):t.length<=4/\r.length+2<=s.length:=by
 have he:∀ n:Int,(Lib.encodeRune n).length<=4:=fun n=>by
  have:=(Lib.encodeRuneZ_length n).2;simpa [Lib.encodeRune] using this
 unfold I5 at h;cases hu:eL s with
 | none=>rw [hu] at h;cases h
 | some p=>
  obtain ⟨n,r1⟩:=p;have h1:=kd hu;rw [hu] at h;simp only at h;split at h
  ·cases zo:eL r1 with
   | none=>rw [zo] at h;cases h
   | some p=>
    obtain ⟨m,r2⟩:=p;have h2:=kd zo;rw [zo] at h;simp only at h;split at h
    ·simp only [Option.some.injEq,Prod.mk.injEq] at h;obtain ⟨rfl,rfl⟩:=h;exact ⟨he _,by omega⟩
    ·cases h
  ·split at h
   ·cases h
   ·simp only [Option.some.injEq,Prod.mk.injEq] at h;obtain ⟨rfl,rfl⟩:=h;exact ⟨he _,by omega⟩
theorem rZ {s t r:Bs} (h:nj s=some (t,r)):t.length<=4/\r.length+2<=s.length:=by
 unfold nj at h;split at h
 ·split at h
  ·cases h;simp
  ·exact L5 h
 ·cases h
theorem fI (s:Bs):(blanks s).length<=s.length:=by
 unfold blanks Lib.trimLeftS;exact (List.dropWhile_sublist _).length_le
theorem dc {part s r:Bs} (h:bK part s=some r):r.length+part.length<=s.length:=by
 unfold bK at h;split at h
 ·rename_i hp
  cases h;have h1:=fI (s.drop part.length);have h2:=hp.length_le;simp at h1;omega
 ·cases h
theorem tO:∀ (f:Nat) (s acc t r:Bs),kF f s acc=some (t,r)->r.length+1<=s.length
 | 0,s,acc,t,r,h=>by cases h
 | f+1,[],acc,t,r,h=>by cases h
 | f+1,c::u,acc,t,r,h=>by
  have hs:kF (f+1) (c::u) acc=if c<32 then none else if c=34 then (if Lib.validD acc then some (acc,blanks u) else none) else if c=92 then (match nj (c::u) with|none=>none|some (b,r')=>kF f r' (acc++b)) else kF f u (acc++[c]):=rfl
  rw [hs] at h;split at h
  ·cases h
  ·split at h
   ·split at h
    ·cases h;have:=fI u;simp;omega
    ·cases h
   ·split at h
    ·cases he:nj (c::u) with
     | none=>rw [he] at h;cases h
     | some p=>
      obtain ⟨b,r'⟩:=p;rw [he] at h;have ih:=tO f _ _ _ _ h;have hr:=(rZ he).2;simp at hr;simp;omega
    ·have ih:=tO f _ _ _ _ h;simp;omega
theorem mL {s t r:Bs} (h:gM s=some (t,r)):r.length+2<=s.length:=by
 unfold gM at h;split at h
 ·cases h
 ·rename_i c u
  split at h
  ·have:=tO _ _ _ _ _ h;simp;omega
  ·cases h
theorem rp (s:Bs):jb s<=s.length:=by
 have hd:∀ t:Bs,gT t<=t.length:=re;have hm:dK s<=s.length:=by unfold dK;cases s with|nil=>simp|cons c r=>split<;>simp
 have hw:∀ t:Bs,iC t<=t.length:=fun t=>by
  unfold iC;split
  ·rename_i h;cases t with|nil=>simp at h|cons c r=>simp
  ·exact hd t
 have gJ:∀ t:Bs,mU t<=t.length:=fun t=>by
  unfold mU;cases t with
  | nil=>simp
  | cons c r=>simp only;split<;>simp;have:=hd r;omega
 have hex:∀ t:Bs,xd t<=t.length:=fun t=>by
  unfold xd;cases t with
  | nil=>simp
  | cons c r=>
   simp only;split
   ·have h1:=hd (r.drop (jW r));have h2:jW r<=r.length:=by unfold jW;cases r with|nil=>simp|cons d q=>simp only;split<;>simp
    simp at h1 ⊢;omega
   ·simp
 unfold jb;simp only;split
 ·exact Nat.zero_le _
 ·have h1:=hw (s.drop (dK s));have h2:=gJ (s.drop (dK s+iC (s.drop (dK s))));have h3:=hex (s.drop (dK s+iC (s.drop (dK s))+mU (s.drop (dK s+iC (s.drop (dK s))))));simp at h1 h2 h3;omega
theorem wM {s r:Bs} {j:Jv} (h:eQ s=.ok (j,r)):r.length<s.length:=by
 unfold eQ at h;cases h1:bK im s with
 | some r1=>rw [h1] at h;cases h;have:=dc h1;simp [im] at this;omega
 | none=>
  rw [h1] at h;simp only at h;cases h2:bK eO s with
  | some r1=>rw [h2] at h;cases h;have:=dc h2;simp [eO] at this;omega
  | none=>
   rw [h2] at h;simp only at h;cases h3:bK jd s with
   | some r1=>rw [h3] at h;cases h;have:=dc h3;simp [jd] at this;omega
   | none=>
    rw [h3] at h;simp only at h;split at h
    ·cases h
    ·rename_i hn
     cases he:jc (s.take (jb s)) with
     | none=>rw [he] at h;cases h
     | some n=>
      rw [he] at h;cases h;have:=fI (s.drop (jb s));have hl:=rp s;simp at this;omega
theorem L8 {obj:Bool} {s s2:Bs} {ks Mt:List Bs} (h:BL obj s ks=.ok (Mt,s2)):s2.length<=s.length:=by
 unfold BL at h;cases obj with
 | false=>simp at h;obtain ⟨_,rfl⟩:=h;exact Nat.le_refl _
 | true=>
  simp only [if_true] at h;cases ht:gM s with
  | none=>rw [ht] at h;cases h
  | some p=>
   obtain ⟨key,s1⟩:=p;rw [ht] at h;simp only at h;split at h
   ·cases h
   ·cases hc:bK [58] s1 with
    | none=>rw [hc] at h;cases h
    | some s3=>
     rw [hc] at h;cases h;have:=mL ht;have:=dc hc;omega
theorem tQ (val:Bs->Pr) (hv:∀ s j r,val s=.ok (j,r)->r.length<s.length) (obj:Bool) (close:UInt8) :
  ∀ (f:Nat) (s:Bs) (l:List Jv) (ks:List Bs) (j:Jv) (r:Bs),gU val obj close f s l ks=.ok (j,r)->r.length<s.length
 | 0,s,l,ks,j,r,h=>by cases h
 | f+1,s,l,ks,j,r,h=>by
  unfold gU at h;cases hk:BL obj s ks with
  | error e=>rw [hk] at h;cases h
  | ok p=>
   obtain ⟨Mt,s2⟩:=p;have h1:=L8 hk;rw [hk] at h;simp only at h;cases hval:val s2 with
   | error e=>rw [hval] at h;cases h
   | ok p=>
    obtain ⟨v,s3⟩:=p;have h2:=hv _ _ _ hval;rw [hval] at h;simp only at h;cases hc:bK [close] s3 with
    | some s4=>
     rw [hc] at h;cases h;have:=dc hc;omega
    | none=>
     rw [hc] at h;simp only at h;cases hm:bK [44] s3 with
     | none=>rw [hm] at h;cases h
     | some s4=>
      rw [hm] at h;have ih:=tQ val hv obj close f _ _ _ _ _ h;have:=dc hm;omega
theorem wN (val:Bs->Pr) (hv:∀ s j r,val s=.ok (j,r)->r.length<s.length) (obj:Bool) (close:UInt8) (s:Bs) (j:Jv) (r:Bs) (h:qb val obj close s=.ok (j,r)):r.length<s.length:=by
 unfold qb at h;cases hc:bK [close] s with
 | some s1=>rw [hc] at h;cases h;have:=dc hc;simp at this;omega
 | none=>rw [hc] at h;exact tQ val hv obj close _ _ _ _ _ _ h
theorem Dt:∀ (d:Nat) (s:Bs) (j:Jv) (r:Bs),aD d s=.ok (j,r)->r.length<s.length:=by
 intro d;induction d with
 | zero=>
  intro s j r h;unfold aD at h;split at h
  ·cases ht:gM s with
   | none=>rw [ht] at h;cases h
   | some p=>obtain ⟨t,r1⟩:=p;rw [ht] at h;cases h;have:=mL ht;omega
  ·cases h
  ·cases h
  ·exact wM h
 | succ d ih=>
  intro s j r h;unfold aD at h;split at h
  ·cases ht:gM s with
   | none=>rw [ht] at h;cases h
   | some p=>obtain ⟨t,r1⟩:=p;rw [ht] at h;cases h;have:=mL ht;omega
  ·have h1:=wN _ ih _ _ _ _ _ h;have:=fI (s.drop 1);simp only [List.length_drop] at this;omega
  ·have h1:=wN _ ih _ _ _ _ _ h;have:=fI (s.drop 1);simp only [List.length_drop] at this;omega
  ·exact wM h
open Go.RowKit
abbrev sV (s:Bs):Value:=.string ⟨s.toArray⟩
abbrev jV (k i:Int) (t:Bs) (lv kv:Value):Value:=.agg #[.int .i64 k,.int .i64 i,.string ⟨t.toArray⟩,lv,kv]
def big:Nat:=140737488355328
def aT (S:Nat->Prop) (w:World) (v:Value) (n:Nat) (cs:List Value):Prop:=
 (n=0/\∃ a c,v=.slice a 0 c)\/∃ g o c,v=.slice (some ⟨g,o,none⟩) n c/\S g/\∀ (i:Nat) u,cs[i]?=some u->w.cell? ⟨g,o+i,none⟩=some u
def kn (S:Nat->Prop) (w:World) (ks:List Bs) (v:Value):Prop:=
 aT S w v ks.length (ks.map sV)/\ks.length<=big/\∀ s∈ks,s.length<=big
def IntOk (n:Int):Prop := -9223372036854775808<=n/\n<=9223372036854775807
mutual
def aG (S:Nat->Prop) (w:World):Jv->Value->Prop
 | .mk k i t l ks,v=>∃ lv kv:Value,v=jV k i t lv kv/\IntOk k/\IntOk i/\t.length<=big/\kn S w ks kv/\l.length<=big/\∃ cs,aq S w l cs/\aT S w lv l.length cs
def aq (S:Nat->Prop) (w:World):List Jv->List Value->Prop
 | [],cs=>cs=[]
 | j::r,cs=>∃ v0 v1 v2 v3 v4 rest,cs=v0::v1::v2::v3::v4::rest/\aG S w j (.agg #[v0,v1,v2,v3,v4])/\aq S w r rest
end
theorem aT.fr {S:Nat->Prop} {w w':World} {v:Value} {n:Nat} {cs:List Value} (h:aT S w v n cs) (f:∀ g,S g->w'.heap[g]?=w.heap[g]?):aT S w' v n cs:=by
 rcases h with h|⟨g,o,c,hv,hS,hc⟩
 ·exact Or.inl h
 ·exact Or.inr ⟨g,o,c,hv,hS,fun i u hu=>(World.cell?_of_block (w:=w) (f g hS)).trans (hc i u hu)⟩
theorem aT.mono {S T:Nat->Prop} {w:World} {v:Value} {n:Nat} {cs:List Value} (h:aT S w v n cs) (f:∀ g,S g->T g):aT T w v n cs:=by
 rcases h with h|⟨g,o,c,hv,hS,hc⟩
 ·exact Or.inl h
 ·exact Or.inr ⟨g,o,c,hv,f g hS,hc⟩
theorem kn.fr {S:Nat->Prop} {w w':World} {ks:List Bs} {v:Value} (h:kn S w ks v) (f:∀ g,S g->w'.heap[g]?=w.heap[g]?):kn S w' ks v:=⟨h.1.fr f,h.2⟩
theorem kn.mono {S T:Nat->Prop} {w:World} {ks:List Bs} {v:Value} (h:kn S w ks v) (f:∀ g,S g->T g):kn T w ks v:=⟨h.1.mono f,h.2⟩
mutual
theorem aG.fr {S:Nat->Prop} {w w':World} (f:∀ g,S g->w'.heap[g]?=w.heap[g]?):∀ (j:Jv) (v:Value),aG S w j v->aG S w' j v
 | .mk k i t l ks,v,h=>by
  simp only [aG] at h ⊢;obtain ⟨lv,kv,h1,h2,h3,h4,h5,h6,cs,h7,h8⟩:=h;exact ⟨lv,kv,h1,h2,h3,h4,h5.fr f,h6,cs,aq.fr f l cs h7,h8.fr f⟩
theorem aq.fr {S:Nat->Prop} {w w':World} (f:∀ g,S g->w'.heap[g]?=w.heap[g]?):∀ (l:List Jv) (cs:List Value),aq S w l cs->aq S w' l cs
 | [],cs,h=>by simp only [aq] at h ⊢;exact h
 | j::r,cs,h=>by
  simp only [aq] at h ⊢;obtain ⟨v0,v1,v2,v3,v4,rest,h1,h2,h3⟩:=h;exact ⟨v0,v1,v2,v3,v4,rest,h1,aG.fr f j _ h2,aq.fr f r rest h3⟩
end
mutual
theorem aG.mono {S T:Nat->Prop} {w:World} (f:∀ g,S g->T g):∀ (j:Jv) (v:Value),aG S w j v->aG T w j v
 | .mk k i t l ks,v,h=>by
  simp only [aG] at h ⊢;obtain ⟨lv,kv,h1,h2,h3,h4,h5,h6,cs,h7,h8⟩:=h;exact ⟨lv,kv,h1,h2,h3,h4,h5.mono f,h6,cs,aq.mono f l cs h7,h8.mono f⟩
theorem aq.mono {S T:Nat->Prop} {w:World} (f:∀ g,S g->T g):∀ (l:List Jv) (cs:List Value),aq S w l cs->aq T w l cs
 | [],cs,h=>by simp only [aq] at h ⊢;exact h
 | j::r,cs,h=>by
  simp only [aq] at h ⊢;obtain ⟨v0,v1,v2,v3,v4,rest,h1,h2,h3⟩:=h;exact ⟨v0,v1,v2,v3,v4,rest,h1,aG.mono f j _ h2,aq.mono f r rest h3⟩
end
theorem aq.len {S:Nat->Prop} {w:World}:∀ (l:List Jv) (cs:List Value),aq S w l cs->cs.length=l.length*5
 | [],cs,h=>by simp only [aq] at h;rw [h];rfl
 | j::r,cs,h=>by
  simp only [aq] at h;obtain ⟨v0,v1,v2,v3,v4,rest,rfl,_,h3⟩:=h;have:=aq.len r rest h3;simp;omega
theorem aq.snoc {S:Nat->Prop} {w:World} {j:Jv} {v0 v1 v2 v3 v4:Value} (hj:aG S w j (.agg #[v0,v1,v2,v3,v4])):∀ (l:List Jv) (cs:List Value),aq S w l cs->aq S w (l++[j]) (cs++[v0,v1,v2,v3,v4])
 | [],cs,h=>by
  simp only [aq] at h;subst h;simp only [List.nil_append,aq];exact ⟨v0,v1,v2,v3,v4,[],rfl,hj,rfl⟩
 | i::r,cs,h=>by
  simp only [aq] at h;obtain ⟨u0,u1,u2,u3,u4,rest,rfl,h2,h3⟩:=h;simp only [List.cons_append,aq];exact ⟨u0,u1,u2,u3,u4,_,rfl,h2,aq.snoc hj r rest h3⟩
def qD (lo:Nat) (w:World):Jv->Value->Prop
 | .mk k i t l ks,v=>∃ (lv kv:Value) (cs:List Value) (S:Nat->Prop),v=jV k i t lv kv/\IntOk k/\IntOk i/\t.length<=big/\l.length<=big/\(ks.length<=big/\∀ s∈ks,s.length<=big) /\
  w.ownsRow lo 31 5 lv l.length cs/\w.ownsRow lo 9 1 kv ks.length (ks.map sV)/\aq S w l cs/\(∀ g,S g->lo<=g/\g<w.heap.size/\lv.ownBlock≠some g/\kv.ownBlock≠some g)
def lB (lo hi:Nat):Nat->Prop:=fun g=>lo<=g/\g<hi
theorem bT (g o i:Nat):(⟨g,o,none⟩:Addr).add i=⟨g,o+i,none⟩:=by
 by_cases h:i=0
 ·subst h;simp [Addr.add]
 ·simp [Addr.add,h]
theorem aT.own {w:World} {lo:Nat} {e:TypeId} {size n:Nat} {v:Value} {cs:List Value} (h:w.ownsRow lo e size v n cs):aT (lB lo w.heap.size) w v n cs:=by
 have hc:=@World.ownsRow.cells _ _ _ _ _ _ _ h;rcases h.2 with ⟨rfl,h0⟩|⟨g,cap,cur,rfl,hg,hh,_⟩
 ·exact Or.inl ⟨h0,none,0,by rw [h0] at *⟩
 ·refine Or.inr ⟨g,0,cap,rfl,⟨hg,lt_of_block hh⟩,fun i u hu => ?_⟩;have:=hc (g:=g) rfl i u hu;rwa [bT] at this
theorem qD.at_ {lo:Nat} {w:World}:∀ {j:Jv} {v:Value},qD lo w j v->aG (lB lo w.heap.size) w j v
 | .mk k i t l ks,v,h=>by
  obtain ⟨lv,kv,cs,S,h1,h2,h3,h4,h5,h6,h7,h8,h9,yD⟩:=h;simp only [aG];exact ⟨lv,kv,h1,h2,h3,h4,⟨aT.own h8,h6⟩,h5,cs,aq.mono (fun g hg=>⟨(yD g hg).1,(yD g hg).2.1⟩) l cs h9,aT.own h7⟩
theorem Blk.setRow {w:World} {g:Nat} {t:TypeId} {cs:Array Value} (h:Blk w g t cs) (ds:Array Value):Blk (w.setRow g ds) g t ds:=by
 unfold Blk at h ⊢;simp [World.setRow,Array.getElem?_modify,h]
theorem setRow_other (w:World) (g k:Nat) (ds:Array Value) (h:k≠g):(w.setRow g ds).heap[k]?=w.heap[k]?:=by
 simp [World.setRow,Array.getElem?_modify,Ne.symm h]
theorem Fr.setRow {S:Nat->Prop} {a w:World} (h:Fr S a w) (g:Nat) (ds:Array Value) (hg:a.heap.size<=g\/S g):Fr S a (w.setRow g ds):=
 ⟨h.os,h.tape,h.output,by simpa [World.setRow] using h.size,fun k hk hn=>(setRow_other w g k ds (fun e=>by subst e;rcases hg with hg|hg;omega;exact hn hg)).trans (h.block k hk hn)⟩
theorem Fr.eE (w:World) (g:Nat) (ds:Array Value):Fr (Only g) w (w.setRow g ds):=
 ⟨rfl,rfl,rfl,by simp [World.setRow],fun k _ hn=>setRow_other w g k ds hn⟩
theorem ah:(Tryz.prog.info? 31).map (·.size)=some 5:=by kernel_rfl
theorem bG {fn:Func} {p:Tmp} (h:fn.results = #[.cell p 31]) (tmps:Array Value) (w:World) (g:Nat) (v0 v1 v2 v3 v4:Value) (hp:tmps.getD p undef=.pointer (some ⟨g,0,none⟩)) (hb:Blk w g 31 #[v0,v1,v2,v3,v4]) :
  (results fn tmps).run Tryz.prog w=.ok (.agg #[v0,v1,v2,v3,v4]) w:=
 results_cell_row h tmps w g _ _ _ _ hp hb Tryz.underlying31 rfl ah
theorem gI {ops:Array Oper} {rest:List Oper} {o:Oper} {a:Act} {w:World} {Q:Exit->Act->World->Prop} (hgd:o.guard=none) (x:Operand) (ho:o.op=.load 31 x) (g:Nat) (hx:a.eval x=.pointer (some ⟨g,0,none⟩)) {cs:Array Value} (hg:Blk w g 31 cs) (h5:cs.size=5)
  (h:wpList Tryz.prog ops Q rest (a.put o.dst (.agg cs)) w):wpList Tryz.prog ops Q (o::rest) a w:=
 wpList_load_row hgd 31 x ho g hx 31 cs (0,0) _ hg Tryz.underlying31 rfl (by rw [h5];exact ah) h
theorem bU (k i:Int) (t:ByteArray) (a b:Option Addr) (n c m d:Nat):(#[Value.int .i64 k,.int .i64 i,.string t,.slice a n c,.slice b m d].all (·.oneCell'))=true:=by simp [Value.oneCell']
abbrev zj:Array Value := #[.int .i64 0,.int .i64 0,.string ⟨#[]⟩,.slice none 0 0,.slice none 0 0]
theorem oB:(Tryz.prog.info? 9).map (fun i=>(i.zero,i.size,i.bytes))=some (some (.string ⟨#[]⟩),1,16):=by kernel_rfl
theorem mv:(Tryz.prog.info? 31).map (fun i=>(i.zero,i.size,i.bytes))=some (some (jV 0 0 [] (.slice none 0 0) (.slice none 0 0)),5,80):=by kernel_rfl
theorem dp {v0 v1 v2 v3 v4:Value} (h:∀ u∈[v0,v1,v2,v3,v4],u.oneCell'=true):(#[v0,v1,v2,v3,v4].all (·.oneCell'))=true:=by
 rw [Array.all_eq_true];intro i hi;have hm : #[v0,v1,v2,v3,v4][i] ∈ #[v0,v1,v2,v3,v4]:=Array.getElem_mem hi;exact h _ (Array.mem_def.1 hm)
theorem aG.one {S:Nat->Prop} {w:World} {j:Jv} {v0 v1 v2 v3 v4:Value} (h:aG S w j (.agg #[v0,v1,v2,v3,v4])):∀ u∈[v0,v1,v2,v3,v4],u.oneCell'=true:=by
 cases j with
 | mk k i t l ks=>
  simp only [aG] at h;obtain ⟨lv,kv,h1,h2,h3,h4,h5,h6,cs,h7,h8⟩:=h;simp only [jV,Value.agg.injEq,Array.mk.injEq,List.cons.injEq,and_true] at h1;obtain ⟨rfl,rfl,rfl,rfl,rfl⟩:=h1;rcases h8 with ⟨_,a,c,rfl⟩|⟨g,o,c,rfl,_⟩<;>rcases h5.1 with ⟨_,a,c,rfl⟩|⟨g,o,c,rfl,_⟩<;>simp [Value.oneCell']
theorem aq.get {S:Nat->Prop} {w:World}:∀ (l:List Jv) (cs:List Value) (m:Nat) (hm:m<l.length),aq S w l cs ->
  ∃ v0 v1 v2 v3 v4,cs[m*5]?=some v0/\cs[m*5+1]?=some v1/\cs[m*5+2]?=some v2/\cs[m*5+3]?=some v3/\cs[m*5+4]?=some v4/\aG S w l[m] (.agg #[v0,v1,v2,v3,v4])
 | [],cs,m,hm,h=>by simp at hm
 | j::r,cs,0,hm,h=>by
  simp only [aq] at h;obtain ⟨v0,v1,v2,v3,v4,rest,rfl,h2,h3⟩:=h;exact ⟨v0,v1,v2,v3,v4,rfl,rfl,rfl,rfl,rfl,h2⟩
 | j::r,cs,m+1,hm,h=>by
  simp only [aq] at h;obtain ⟨v0,v1,v2,v3,v4,rest,rfl,h2,h3⟩:=h;obtain ⟨u0,u1,u2,u3,u4,a0,a1,a2,a3,a4,ha⟩:=aq.get r rest m (by simpa using hm) h3;have e:∀ i,(m+1)*5+i=(m*5+i)+5:=fun i=>by omega
  refine ⟨u0,u1,u2,u3,u4,?_,?_,?_,?_,?_,ha⟩
  ·have:=e 0;simp only [Nat.add_zero] at this;rw [this];simpa using a0
  ·rw [e 1];simpa using a1
  ·rw [e 2];simpa using a2
  ·rw [e 3];simpa using a3
  ·rw [e 4];simpa using a4
theorem Bz {a b:Bs}:((⟨a.toArray⟩:ByteArray)=⟨b.toArray⟩) ↔ a=b:=by
 constructor
 ·intro h;injection h with h;simpa using congrArg Array.toList h
 ·rintro rfl;rfl
theorem tq {fn:Func} (h:fn.results = #[.cell 4 31,.tmp 5]) (tmps:Array Value) (w:World) (g:Nat) (v0 v1 v2 v3 v4:Value) (n:Value)
  (hp:tmps.getD 4 undef=.pointer (some ⟨g,0,none⟩)) (hq:tmps.getD 5 undef=n) (hb:Blk w g 31 #[v0,v1,v2,v3,v4]) :
  (results fn tmps).run Tryz.prog w=.ok (.tuple #[.agg #[v0,v1,v2,v3,v4],n]) w:=by
 have ph:tmps[4]?.getD undef=.pointer (some ⟨g,0,none⟩):=by simpa using hp
 have hq':tmps[5]?.getD undef=n:=by simpa using hq
 simp [results,h,ph,hq',asAddr,run_loadVar_row w g 31 31 _ (0,0) _ hb Tryz.underlying31 rfl ah]
theorem xZ (S:Nat->Prop) (w:World):aG S w Jv.pq (jV 0 0 [] (.slice none 0 0) (.slice none 0 0)):=by
 simp only [Jv.pq,aG];exact ⟨_,_,rfl,by unfold IntOk;omega,by unfold IntOk;omega,by unfold big;simp,⟨Or.inl ⟨rfl,_,_,rfl⟩,by unfold big;simp,by simp⟩,by unfold big;simp,[],by simp [aq],Or.inl ⟨rfl,_,_,rfl⟩⟩
theorem aG.abZ {S:Nat->Prop} {w:World} {x:Jv} {v0 v1 v2 v3 v4:Value} (h:aG S w x (.agg #[v0,v1,v2,v3,v4])):v0=.int .i64 x.kind/\v1=.int .i64 x.int/\v2=.string ⟨x.text.toArray⟩/\x.text.length<=big:=by
 cases x with
 | mk k i t l ks=>
  simp only [aG] at h;obtain ⟨lv,kv,h1,h2,h3,h4,h5,h6,cs,h7,h8⟩:=h;simp only [jV,Value.agg.injEq,Array.mk.injEq,List.cons.injEq,and_true] at h1;obtain ⟨rfl,rfl,rfl,rfl,rfl⟩:=h1;exact ⟨rfl,rfl,rfl,h4⟩
theorem L3 (S:Nat->Prop) (w:World) (k i:Int) (t:Bs) (hk:IntOk k) (hi:IntOk i) (ht:t.length<=big) (la ka:Option Addr) (lc kc:Nat):aG S w (.mk k i t [] []) (jV k i t (.slice la 0 lc) (.slice ka 0 kc)):=by
 simp only [aG];exact ⟨_,_,rfl,hk,hi,ht,⟨Or.inl ⟨rfl,_,_,rfl⟩,by unfold big;simp,by simp⟩,by unfold big;simp,[],by simp [aq],Or.inl ⟨rfl,_,_,rfl⟩⟩
abbrev All (w:World):Nat->Prop:=fun g=>g<w.heap.size
theorem aG.all {w u:World} {j:Jv} {v:Value} (h:aG (All w) w j v) (f:Fr NoB w u):aG (All u) u j v:=
 aG.mono (fun _ hg=>Nat.lt_of_lt_of_le hg f.size) j v (aG.fr (fun g hg=>f.block g hg (fun e=>e)) j v h)
theorem sP (a b:ByteArray):(a++b).toList=a.toList++b.toList:=by rw [ByteArray.toList_eq,ByteArray.toList_eq,ByteArray.toList_eq];simp [ByteArray.data_append]
theorem aT.sl {S:Nat->Prop} {w:World} {v:Value} {n:Nat} {cs:List Value} (h:aT S w v n cs):∃ a c,v=.slice a n c:=by
 rcases h with ⟨h0,a,c,rfl⟩|⟨g,o,c,rfl,_⟩
 ·exact ⟨a,c,by rw [h0]⟩
 ·exact ⟨_,c,rfl⟩
theorem aT.at_ {w u:World} {a:Option Addr} {n c:Nat} {cs:List Value} (h:aT (All w) w (.slice a n c) n cs) (f:Fr NoB w u) (hn:0<n):∃ g o,a=some ⟨g,o,none⟩/\∀ (i:Nat) x,cs[i]?=some x->u.cell? ⟨g,o+i,none⟩=some x:=by
 rcases h with ⟨h0,_⟩|⟨g,o,c',he,hg,hc⟩
 ·omega
 ·simp only [Value.slice.injEq,true_and] at he;exact ⟨g,o,he.1,fun i x hx=>(f.cell (p:=⟨g,o+i,none⟩) hg (fun e=>e)).trans (hc i x hx)⟩
theorem iJ {k:IntKind} {a b:Int} (h:a=b):Ending.returned (.int k a)=.returned (.int k b):=by rw [h]
theorem iu (s:Bs) (i:Nat):((⟨s.toArray⟩:ByteArray).extract i s.length)=⟨(s.drop i).toArray⟩:=by
 apply ByteArray.ext;rw [ByteArray.data_extract];simp [List.take_of_length_le]
theorem lT (s:Bs) (i:Nat):((⟨s.toArray⟩:ByteArray).extract 0 i)=⟨(s.take i).toArray⟩:=by
 apply ByteArray.ext;rw [ByteArray.data_extract];simp
theorem aM (s:Bs) (i:Nat) (h:i<s.length):(⟨s.toArray⟩:ByteArray)[i]'h=s[i]:=rfl
theorem XS {c:UInt8} {n:Nat} (hn:n<256):((c.toNat:Int)==(n:Int))=(c==n.toUInt8):=by
 rw [Bool.eq_iff_iff];simp only [beq_iff_eq];constructor
 ·intro h;have:c.toNat=n:=by omega
  rw [<- this];simp
 ·intro h;subst h;simp;omega
theorem jE {c:UInt8} (n:Nat) (hn:n<256) (h:c≠n.toUInt8):((c.toNat:Int)==(n:Int))=false:=by
 rw [XS hn];simpa using h
theorem jq {P:Program} {Q:Exit->Act->List Frame->World->Prop} {a:Act} {cs:List Frame} {w:World} {id:Nat} {o:Oper} {rest:List Oper}
  (v:Value) (cs':List Frame) (hr:(execOp a.eval o).run P w=.ok .recover w) (hw:Region.wanted o (yielded (o::rest).toArray a.tmps)=true)
  (Pu:recoverD cs=some (v,cs')\/(recoverD cs=none/\v=.nilIface/\cs'=cs))
  (h:wpList P (o::rest).toArray (fun e a' w'=>Q e a' cs' w') rest (a.put o.dst v) w):(Code.region id (o::rest).toArray false).wpS P Q a cs w:=by
 intro b k hb hro;have ho:(o::rest).toArray[0]?=some o:=by simp
 have hg:=stepG_op (P:=P) (b:=b) (k:=k) (cs:=cs) (w:=w) (rest:=List.range' 1 rest.length) ho hw;have iq:(b.at a (.inRegion (o::rest).toArray (0::List.range' 1 rest.length)::k)).finish v=b.at (a.put o.dst v) (.inRegion (o::rest).toArray (List.range' 1 rest.length)::k):=by
  rw [Frame.finish_at,ho];rfl
 have hk:(b.at a (.inRegion (o::rest).toArray (0::List.range' 1 rest.length)::k)).kind=.deferred:=hb;have OZ:=tryRecover_deferred hk cs;have acY:wpOps P (o::rest).toArray (fun e a' w'=>Q e a' cs' w') (List.range' 1 rest.length) (a.put o.dst v) w:=by
  rw [wpOps_eq_wpList rest 1 (by intro j;simp [Nat.add_comm 1 j])];exact h
 obtain ⟨e,a',w',hq,acZ⟩:=wp_ops _ _ _ acY b k cs';have XT:step P (lone (b.at a (.inRegion (o::rest).toArray (0::List.range' 1 rest.length)::k)) cs w)=.next (lone (b.at (a.put o.dst v) (.inRegion (o::rest).toArray (List.range' 1 rest.length)::k)) cs' w):=by
  refine step_lone_go ?_;rw [hg,<- iq];simp only [Frame.at] at OZ ⊢;rcases Pu with Pu|⟨Pu,rfl,rfl⟩<;>simp [stepG.apply,hr,OZ,Pu]
 refine ⟨e,a',cs',w',hq,.of_steps (.head step_region (.one ?_)) acZ⟩;have:List.range (o::rest).toArray.size=0::List.range' 1 rest.length:=by
  simp [List.range_eq_range',List.range'_succ]
 rw [this];exact XT
def yn (n:Int):Value:=.iface 193 (.agg #[.int .i64 n])
abbrev Wr (n:Int):Ending:=.panicked [{ v:=yn n,recovered:=false }]
theorem ov (n:Int) (w:World):Calls Tryz.prog 130 #[.bool true,.int .i64 n] w fun e w'=>e=.returned (.tuple #[])/\w=w':=by
 go_enter Tryz.func130,Tryz.ntmps130;go_wp2;go_end0;exact ⟨rfl,rfl⟩
theorem gj (n:Int) (w:World):Calls Tryz.prog 130 #[.bool false,.int .i64 n] w fun e w'=>e=Wr n/\w=w':=by
 go_enter Tryz.func130,Tryz.ntmps130;go_wp2;exact ⟨rfl,rfl,rfl⟩
theorem aA (t:Bool) (n:Int) (w:World) (h:t=true):Calls Tryz.prog 130 #[.bool t,.int .i64 n] w fun e w'=>e=.returned (.tuple #[])/\w=w':=by subst h;exact ov n w
theorem aE (t:Bool) (n:Int) (w:World) (h:t=false):Calls Tryz.prog 130 #[.bool t,.int .i64 n] w fun e w'=>e=Wr n/\w=w':=by subst h;exact gj n w
theorem gZ (p:Addr) (x n:Int) (L9:List PanicEntry) (w:World) (hc:w.cell? p=some (.int .i64 x)) (hz:w.frozen? p=false) (hp:p.block<w.heap.size) :
  CallsD Tryz.prog 78 #[.pointer (some p)] (.panicking ({ v:=yn n,recovered:=false }::L9)) w fun e u' w'=>
   e=.returned (.tuple #[])/\u'=.panicking ({ v:=yn n,recovered:=true }::L9)/\w'=(w.alloc (.cells #[.int .i64 n] 193)).setCell p (.int .i64 n):=by
 unfold yn;have hc':(w.alloc (.cells #[.int .i64 n] 193)).cell? p=some (.int .i64 x):=(((Fr.refl NoB w).alloc _).cell hp (fun h=>h)).trans hc;have hz':(w.alloc (.cells #[.int .i64 n] 193)).frozen? p=false:=(((Fr.refl NoB w).alloc _).frozen hp (fun h=>h)).trans hz;have hta:∀ w,(Instr.typeAssert (.iface 193 (.agg #[.int .i64 n])) 20 193 true).run Tryz.prog w=.ok (.tuple #[.agg #[.int .i64 n],.bool true]) w:=fun _=>by kernel_rfl
 refine callsD_of_wpS Tryz.func78 rfl fun c₀ cs hu => ?_;apply wpS_seq;simp only [Tryz.ntmps78,List.size_toArray,List.length_cons,List.length_nil,Nat.reduceAdd,Nat.reduceSub,Array.replicate_succ,Array.replicate_zero,List.push_toArray,List.append_toArray,List.nil_append,List.cons_append];refine jq (.iface 193 (.agg #[.int .i64 n])) ({ c₀ with mode:=.panicking ({ v:=.iface 193 (.agg #[.int .i64 n]),recovered:=true }::L9) }::cs) (by simp [go_sem]) (by rfl) (Or.inl (by simp [recoverD,hu])) ?_;clear hu;simp only [Exit.thenS];go_wp2;refine wpS_of_wp ?_;go_wp2;exact ⟨rfl,_,rfl,_,results_none rfl _ _ _,rfl,rfl,rfl⟩
theorem qj (p:Addr) (w:World) :
  CallsD Tryz.prog 78 #[.pointer (some p)] .returning w fun e u' w'=>e=.returned (.tuple #[])/\u'=.returning/\w'=w.alloc (.cells #[.int .i64 0] 193):=by
 have hta:∀ w,(Instr.typeAssert .nilIface 20 193 true).run Tryz.prog w=.ok (.tuple #[.agg #[.int .i64 0],.bool false]) w:=fun _=>by kernel_rfl
 refine callsD_of_wpS Tryz.func78 rfl fun c₀ cs hu => ?_;apply wpS_seq;simp only [Tryz.ntmps78,List.size_toArray,List.length_cons,List.length_nil,Nat.reduceAdd,Nat.reduceSub,Array.replicate_succ,Array.replicate_zero,List.push_toArray,List.append_toArray,List.nil_append,List.cons_append];refine jq .nilIface (c₀::cs) (by simp [go_sem]) (by rfl) (Or.inr ⟨by simp [recoverD,hu],rfl,rfl⟩) ?_;simp only [Exit.thenS];go_wp2;refine wpS_of_wp ?_;go_wp2;refine ⟨rfl,.returning,?_,_,results_none rfl _ _ _,rfl,rfl,rfl⟩;cases c₀;simp_all
end Go.Proofs.YtbifjamddbpcjaaGreatDoor
