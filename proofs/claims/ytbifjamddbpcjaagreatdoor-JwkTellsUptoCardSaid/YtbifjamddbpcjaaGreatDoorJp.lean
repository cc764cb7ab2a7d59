/- JSON as the document has it, on lists of bytes: reading. Plain definitions and lemmas, no program. -/
import Derived.WalkKit
import Derived.Deep.QuietTactic
import Derived.BigQuiet
import Derived.Lib.Hide
import Derived.WalkSpells
import Derived.Outline
import Derived.Lib.ValidLaws
import Derived.Lib.RuneBytes
import Derived.Lib.SlTrimSet
import Derived.Lib.AtoiAll
import Derived.Lib.ItoaNum
namespace Go.Proofs.YtbifjamddbpcjaaGreatDoor
open Go.RowKit
theorem hd' {p:Prop} (h:p):Hid p:=Lib.hid h
theorem cS' {α:Type _} {a b:α} (h:a=b):some a=some b:=congrArg some h
def Blk (w:World) (g:Nat) (t:TypeId) (cs:Array Value):Prop:=w.heap[g]?=some (.cells cs t (0,0))
section
variable {w w':World} {g:Nat} {t:TypeId} {cs:Array Value}
theorem Blk.lt (h:Blk w g t cs):g<w.heap.size:=by
 rcases Nat.lt_or_ge g w.heap.size with hlt|Bn
 ·exact hlt
 ·unfold Blk at h;rw [Array.getElem?_eq_none Bn] at h;cases h
theorem Blk.cell (h:Blk w g t cs) (i:Nat):w.cell? ⟨g,i,none⟩=cs[i]?:=cell_of_row w g i cs t (0,0) h
theorem Blk.frozen (h:Blk w g t cs) (i:Nat):w.frozen? ⟨g,i,none⟩=false:=by
 unfold Blk at h;simp [World.frozen?,h]
theorem Blk.new (w:World) (t:TypeId) (cs:Array Value):Blk (w.alloc (.cells cs t)) w.heap.size t cs:=heap_alloc_new w _
theorem Blk.drew (h:Blk w g t cs):Blk w.drew g t cs:=h
theorem Blk.drewN (h:Blk w g t cs) (n:Nat):Blk (w.drewN n) g t cs:=h
theorem Blk.alloc (h:Blk w g t cs) (o:Obj):Blk (w.alloc o) g t cs:=(Below.heap_alloc w o g h.lt).trans h
theorem Blk.aS (h:Blk w g t cs) (i:Nat) (u:Value):Blk (w.setCell ⟨g,i,none⟩ u) g t (cs.setIfInBounds i u):=by
 unfold Blk at h ⊢;simp [World.setCell,Array.getElem?_modify,h]
theorem Blk.far (h:Blk w g t cs) {p:Addr} (hp:g≠p.block) (u:Value):Blk (w.setCell p u) g t cs:=(Below.heap_setCell w p u g hp).trans h
end
structure Fr (S:Nat->Prop) (w w':World):Prop where
 os:w'.os=w.os
 tape:w'.tape=w.tape
 output:w'.output=w.output
 size:w.heap.size<=w'.heap.size
 block:∀ k,k<w.heap.size->¬ S k->w'.heap[k]?=w.heap[k]?
def NoB:Nat->Prop:=fun _=>False
section
variable {S T:Nat->Prop} {a w w':World}
theorem Fr.refl (S:Nat->Prop) (w:World):Fr S w w:=⟨rfl,rfl,rfl,Nat.le_refl _,fun _ _ _=>rfl⟩
theorem Fr.trans {b c:World} (h:Fr S a b) (k:Fr S b c):Fr S a c:=
 ⟨k.os.trans h.os,k.tape.trans h.tape,k.output.trans h.output,Nat.le_trans h.size k.size,fun i hi hs=>(k.block i (Nat.lt_of_lt_of_le hi h.size) hs).trans (h.block i hi hs)⟩
theorem Fr.mono (h:Fr S w w') (hs:∀ k,k<w.heap.size->S k->T k):Fr T w w':=⟨h.os,h.tape,h.output,h.size,fun k hk hn=>h.block k hk (fun e=>hn (hs k hk e))⟩
theorem Fr.drew (h:Fr S a w):Fr S a w.drew:=⟨h.os,h.tape,h.output,h.size,h.block⟩
theorem Fr.drewN (h:Fr S a w) (n:Nat):Fr S a (w.drewN n):=⟨h.os,h.tape,h.output,h.size,h.block⟩
theorem Fr.alloc (h:Fr S a w) (o:Obj):Fr S a (w.alloc o):=
 h.trans ⟨rfl,rfl,rfl,by simp,fun k hk _=>Below.heap_alloc _ _ _ hk⟩
theorem Fr.setCell (h:Fr S a w) {p:Addr} (hp:S p.block) (u:Value):Fr S a (w.setCell p u):=
 h.trans ⟨rfl,rfl,rfl,by simp [World.setCell],fun k _ hs=>Below.heap_setCell _ _ _ _ (fun e=>hs (e ▸ hp))⟩
theorem Fr.setCell_new (h:Fr S a w) {p:Addr} (hp:a.heap.size<=p.block) (u:Value):Fr S a (w.setCell p u):=
 ⟨h.os,h.tape,h.output,by simpa [World.setCell] using h.size,fun k hk hs=>(Below.heap_setCell _ _ _ _ (by omega)).trans (h.block k hk hs)⟩
theorem Fr.grown {row:Option Nat} (h:Fr S a w) (hg:w.grownBy w' row) (hr:∀ j,row=some j->j<a.heap.size->S j):Fr S a w':=
 ⟨hg.os.trans h.os,hg.tape.trans h.tape,hg.output.trans h.output,Nat.le_trans h.size hg.size,
  fun k hk hs=>(hg.block k (Nat.lt_of_lt_of_le hk h.size) (fun e=>hs (hr k e.symm hk))).trans (h.block k hk hs)⟩
theorem Fr.andThen (h:Fr S a w) (k:Fr T w w') (hs:∀ j,j<a.heap.size->T j->S j):Fr S a w':=
 ⟨k.os.trans h.os,k.tape.trans h.tape,k.output.trans h.output,Nat.le_trans h.size k.size,
  fun i hi hn=>(k.block i (Nat.lt_of_lt_of_le hi h.size) (fun e=>hn (hs i hi e))).trans (h.block i hi hn)⟩
theorem Fr.below (h:Fr S w w') {B:Nat} (hB:B<=w.heap.size) (hs:∀ j,S j->B<=j):Below B w w':=
 ⟨h.os,h.tape,h.output,h.size,fun k hk=>h.block k (by omega) (fun e=>by have:=hs k e;omega)⟩
theorem Fr.cell (h:Fr S w w') {p:Addr} (hp:p.block<w.heap.size) (hs:¬ S p.block):w'.cell? p=w.cell? p:=World.cell?_of_block (w:=w) (h.block p.block hp hs)
theorem Fr.frozen (h:Fr S w w') {p:Addr} (hp:p.block<w.heap.size) (hs:¬ S p.block):w'.frozen? p=w.frozen? p:=World.frozen?_of_block (w:=w) (h.block p.block hp hs)
theorem Fr.blk (h:Fr S w w') {g:Nat} {t:TypeId} {cs:Array Value} (hb:Blk w g t cs) (hs:¬ S g):Blk w' g t cs:=(h.block g hb.lt hs).trans hb
theorem Fr.row {base:Nat} {e:TypeId} {size:Nat} {v:Value} {n:Nat} {xs:List Value} (h:Fr S w w') (ho:w.ownsRow base e size v n xs) (hs:∀ g,v.ownBlock=some g->¬ S g):w'.ownsRow base e size v n xs:=by
 obtain ⟨h1,h2⟩:=ho;refine ⟨h1,?_⟩;rcases h2 with h2|⟨g,cap,cur,hv,hg,hh,r⟩
 ·exact Or.inl h2
 ·have hlt:=lt_of_block hh;subst hv;exact Or.inr ⟨g,cap,cur,rfl,hg,(h.block g hlt (hs g rfl)).trans hh,r⟩
end
def Only (b:Nat):Nat->Prop:=fun k=>k=b
theorem Fr.cT {S:Nat->Prop} {w w':World} (h:Fr NoB w w'):Fr S w w':=h.mono (fun _ _ e=>e.elim)
theorem Fr.only {b o:Nat} {a w:World} (h:Fr (Only b) a w) (v:Value):Fr (Only b) a (w.setCell ⟨b,o,none⟩ v):=h.setCell (p:=⟨b,o,none⟩) rfl v
theorem A4:(∀ (a:Act) (d:Option Tmp) (v:Value),a.put d v=match d with|some d=>{ a with tmps:=a.tmps.setIfInBounds d v }|none=>a)/\(∀ (l:List Value) (i:Nat) (x:Value),l.toArray.setIfInBounds i x=(l.set i x).toArray)/\(∀ (a b:Value) (r:List Value),(a::r).set 0 b=b::r)/\(∀ (a b:Value) (r:List Value) (n:Nat),(a::r).set (n+1) b=a::r.set n b):=
 ⟨fun _ _ _=>rfl,fun _ _ _=>List.setIfInBounds_toArray ..,fun _ _ _=>rfl,fun _ _ _ _=>rfl⟩
theorem eF {p:UInt8->Bool} (h:(List.range 256).all (fun n=>p n.toUInt8)=true) (c:UInt8):p c=true:=by
 have hl:c.toNat∈List.range 256:=by simp only [List.mem_range];exact c.toNat_lt
 have:=List.all_eq_true.1 h _ hl;simpa using this
end Go.Proofs.YtbifjamddbpcjaaGreatDoor
namespace Go.Proofs.YtbifjamddbpcjaaGreatDoor
abbrev Bs:=List UInt8
inductive Jv where
 | mk (kind int:Int) (text:Bs) (list:List Jv) (keys:List Bs)
def Jv.kind:Jv->Int | .mk k _ _ _ _=>k
def Jv.int:Jv->Int | .mk _ i _ _ _=>i
def Jv.text:Jv->Bs | .mk _ _ t _ _=>t
def Jv.list:Jv->List Jv | .mk _ _ _ l _=>l
def Jv.keys:Jv->List Bs | .mk _ _ _ _ k=>k
def Jv.pq:Jv:=.mk 0 0 [] [] []
def qL:Bs:=[32,9,10,13]
def blanks (s:Bs):Bs:=Lib.trimLeftS s qL
def bK (part s:Bs):Option Bs:=if part <+: s then some (blanks (s.drop part.length)) else none
def cM (c:UInt8):Nat:=
 if 48<=c.toNat/\c.toNat<=57 then c.toNat - 48 else if 97<=c.toNat/\c.toNat<=102 then c.toNat - 87 else if 65<=c.toNat/\c.toNat<=70 then c.toNat - 55 else 16
def eL:Bs->Option (Nat×Bs)
 | x::y::a::b::c::d::r=>
  if x=92/\y=117/\cM a<16/\cM b<16/\cM c<16/\cM d<16 then some (4096*cM a+256*cM b+16*cM c+cM d,r) else none
 | _=>none
def kE (c:UInt8):UInt8:=
 if c=34 then 34 else if c=92 then 92 else if c=47 then 47 else if c=98 then 8 else if c=102 then 12 else if c=110 then 10 else if c=114 then 13 else if c=116 then 9 else 0
def I5 (s:Bs):Option (Bs×Bs):=
 match eL s with
 | none=>none
 | some (n,r)=>
  if 0xd800<=n/\n<=0xdbff then
   match eL r with
   | none=>none
   | some (m,r2)=>if 0xdc00<=m/\m<=0xdfff then some (Lib.encodeRune ((0x10000+(n - 0xd800)*0x400+(m - 0xdc00):Nat):Int),r2) else none
  else if 0xdc00<=n/\n<=0xdfff then none
  else some (Lib.encodeRune (n:Int),r)
def nj (s:Bs):Option (Bs×Bs):=
 match s with
 | _::c::r=>if kE c≠0 then some ([kE c],r) else I5 s
 | _=>none
def kF:Nat->Bs->Bs->Option (Bs×Bs)
 | 0,_,_=>none
 | f+1,s,acc=>
  match s with
  | []=>none
  | c::r=>
   if c<32 then none
   else if c=34 then (if Lib.validD acc then some (acc,blanks r) else none)
   else if c=92 then (match nj s with|none=>none|some (b,r')=>kF f r' (acc++b))
   else kF f r (acc++[c])
def gM (s:Bs):Option (Bs×Bs):=
 match s with
 | []=>none
 | c::r=>if c=34 then kF (s.length) r [] else none
def lE (c:UInt8):Bool:=48<=c&&c<=57
def gT (s:Bs):Nat:=(s.takeWhile lE).length
def mU (s:Bs):Nat:=
 match s with
 | []=>0
 | c::r=>if c=46/\0<gT r then 1+gT r else 0
def jW (s:Bs):Nat:=
 match s with
 | []=>0
 | c::_=>if c=43\/c=45 then 1 else 0
def xd (s:Bs):Nat:=
 match s with
 | []=>0
 | c::r=>if (c=101\/c=69)/\0<gT (r.drop (jW r)) then 1+jW r+gT (r.drop (jW r)) else 0
def dK (s:Bs):Nat:=if s.head?=some 45 then 1 else 0
def iC (s:Bs):Nat:=if s.head?=some 48 then 1 else gT s
def jb (s:Bs):Nat:=
 let i:=dK s
 let n:=iC (s.drop i)
 if n=0 then 0 else
  let j:=i+n
  let k:=j+mU (s.drop j)
  k+xd (s.drop k)
def kG:Int:=9007199254740991
def jc (s:Bs):Option Int:=
 match Lib.atoiAll s with
 | .ok n=>if Lib.itoa n=s/\n<=kG /\ -kG<=n then some n else none
 | _=>none
abbrev Pr:=Except Nat (Jv×Bs)
def BL (obj:Bool) (s:Bs) (ks:List Bs):Except Nat (List Bs×Bs):=
 if obj then
  match gM s with
  | none=>.error 90
  | some (key,s1)=>
   if ks.contains key then .error 94
   else
    match bK [58] s1 with
    | none=>.error 90
    | some s2=>.ok (ks++[key],s2)
 else .ok (ks,s)
def gU (val:Bs->Pr) (obj:Bool) (close:UInt8):Nat->Bs->List Jv->List Bs->Pr
 | 0,_,_,_=>.error 90
 | f+1,s,l,ks=>
  match BL obj s ks with
  | .error e=>.error e
  | .ok (Mt,s2)=>
   match val s2 with
   | .error e=>.error e
   | .ok (v,s3)=>
    match bK [close] s3 with
    | some s4=>.ok (.mk (if obj then 6 else 5) 0 [] (l++[v]) Mt,s4)
    | none=>
     match bK [44] s3 with
     | none=>.error 90
     | some s4=>gU val obj close f s4 (l++[v]) Mt
def qb (val:Bs->Pr) (obj:Bool) (close:UInt8) (s:Bs):Pr:=
 match bK [close] s with
 | some s1=>.ok (.mk (if obj then 6 else 5) 0 [] [] [],s1)
 | none=>gU val obj close (s.length+1) s [] []
def im:Bs:=[110,117,108,108]
def eO:Bs:=[102,97,108,115,101]
def jd:Bs:=[116,114,117,101]
def eQ (s:Bs):Pr:=
 match bK im s with
 | some r=>.ok (.mk 0 0 [] [] [],r)
 | none=>match bK eO s with
  | some r=>.ok (.mk 1 0 [] [] [],r)
  | none=>match bK jd s with
   | some r=>.ok (.mk 2 0 [] [] [],r)
   | none=>if jb s=0 then .error 90 else
    match jc (s.take (jb s)) with
    | none=>.error 95
    | some n=>.ok (.mk 3 n [] [] [],blanks (s.drop (jb s)))
def aD:Nat->Bs->Pr
 | d,s=>
  match s.head? with
  | some 34=>(match gM s with|none=>.error 90|some (t,r)=>.ok (.mk 4 0 t [] [],r))
  | some 91=>(match d with|0=>.error 91|d+1=>qb (aD d) false 93 (blanks (s.drop 1)))
  | some 123=>(match d with|0=>.error 91|d+1=>qb (aD d) true 125 (blanks (s.drop 1)))
  | _=>eQ s
def gX (s:Bs):Except Nat Jv:=
 if 65536<s.length then .error 92 else
 match aD 32 (blanks s) with
 | .error e=>.error e
 | .ok (v,r)=>if r=[] then .ok v else .error 90
end Go.Proofs.YtbifjamddbpcjaaGreatDoor
