/- Words for worlds: a block known whole, a frame that names the blocks that may turn. Plain lemmas, no program. -/
import Derived.WalkKit
import Derived.Deep.QuietTactic
import Derived.BigQuiet
import Derived.Lib.Hide
import Derived.WalkSpells
import Derived.Outline
namespace Go.Proofs.YtbifjamddbpcjaaGreatDoor
open Go.RowKit
def Blk (w:World) (g:Nat) (t:TypeId) (cs:Array Value):Prop:=w.heap[g]?=some (.cells cs t (0,0))
section
variable {w w':World} {g:Nat} {t:TypeId} {cs:Array Value}
theorem Blk.lt (h:Blk w g t cs):g<w.heap.size:=by
 rcases Nat.lt_or_ge g w.heap.size with hlt|hge
 ·exact hlt
 ·unfold Blk at h;rw [Array.getElem?_eq_none hge] at h;cases h
theorem Blk.cell (h:Blk w g t cs) (i:Nat):w.cell? ⟨g,i,none⟩=cs[i]?:=cell_of_row w g i cs t (0,0) h
theorem Blk.frozen (h:Blk w g t cs) (i:Nat):w.frozen? ⟨g,i,none⟩=false:=by
 unfold Blk at h
 simp [World.frozen?,h]
theorem Blk.new (w:World) (t:TypeId) (cs:Array Value):Blk (w.alloc (.cells cs t)) w.heap.size t cs:=heap_alloc_new w _
theorem Blk.drew (h:Blk w g t cs):Blk w.drew g t cs:=h
theorem Blk.drewN (h:Blk w g t cs) (n:Nat):Blk (w.drewN n) g t cs:=h
theorem Blk.alloc (h:Blk w g t cs) (o:Obj):Blk (w.alloc o) g t cs:=(Below.heap_alloc w o g h.lt).trans h
theorem Blk.set_ (h:Blk w g t cs) (i:Nat) (u:Value):Blk (w.setCell ⟨g,i,none⟩ u) g t (cs.setIfInBounds i u):=by
 unfold Blk at h ⊢
 simp [World.setCell,Array.getElem?_modify,h]
theorem Blk.far (h:Blk w g t cs) {p:Addr} (hp:g≠p.block) (u:Value):Blk (w.setCell p u) g t cs:=(Below.heap_setCell w p u g hp).trans h
end
structure Fr (S:Nat→Prop) (w w':World):Prop where
 os:w'.os=w.os
 tape:w'.tape=w.tape
 output:w'.output=w.output
 size:w.heap.size≤w'.heap.size
 block:∀ k,k<w.heap.size→¬ S k→w'.heap[k]?=w.heap[k]?
def NoB:Nat→Prop:=fun _=>False
section
variable {S T:Nat→Prop} {a w w':World}
theorem Fr.refl (S:Nat→Prop) (w:World):Fr S w w:=⟨rfl,rfl,rfl,Nat.le_refl _,fun _ _ _=>rfl⟩
theorem Fr.trans {b c:World} (h:Fr S a b) (k:Fr S b c):Fr S a c:=
 ⟨k.os.trans h.os,k.tape.trans h.tape,k.output.trans h.output,Nat.le_trans h.size k.size,fun i hi hs=>(k.block i (Nat.lt_of_lt_of_le hi h.size) hs).trans (h.block i hi hs)⟩
theorem Fr.mono (h:Fr S w w') (hs:∀ k,k<w.heap.size→S k→T k):Fr T w w':=⟨h.os,h.tape,h.output,h.size,fun k hk hn=>h.block k hk (fun e=>hn (hs k hk e))⟩
theorem Fr.drew (h:Fr S a w):Fr S a w.drew:=⟨h.os,h.tape,h.output,h.size,h.block⟩
theorem Fr.drewN (h:Fr S a w) (n:Nat):Fr S a (w.drewN n):=⟨h.os,h.tape,h.output,h.size,h.block⟩
theorem Fr.alloc (h:Fr S a w) (o:Obj):Fr S a (w.alloc o):=
 h.trans ⟨rfl,rfl,rfl,by simp,fun k hk _=>Below.heap_alloc _ _ _ hk⟩
theorem Fr.setCell (h:Fr S a w) {p:Addr} (hp:S p.block) (u:Value):Fr S a (w.setCell p u):=
 h.trans ⟨rfl,rfl,rfl,by simp [World.setCell],fun k _ hs=>Below.heap_setCell _ _ _ _ (fun e=>hs (e ▸ hp))⟩
theorem Fr.setCell_new (h:Fr S a w) {p:Addr} (hp:a.heap.size≤p.block) (u:Value):Fr S a (w.setCell p u):=
 ⟨h.os,h.tape,h.output,by simpa [World.setCell] using h.size,fun k hk hs=>(Below.heap_setCell _ _ _ _ (by omega)).trans (h.block k hk hs)⟩
theorem Fr.grown {row:Option Nat} (h:Fr S a w) (hg:w.grownBy w' row) (hr:∀ j,row=some j→j<a.heap.size→S j):Fr S a w':=
 ⟨hg.os.trans h.os,hg.tape.trans h.tape,hg.output.trans h.output,Nat.le_trans h.size hg.size,
  fun k hk hs=>(hg.block k (Nat.lt_of_lt_of_le hk h.size) (fun e=>hs (hr k e.symm hk))).trans (h.block k hk hs)⟩
theorem Fr.andThen (h:Fr S a w) (k:Fr T w w') (hs:∀ j,j<a.heap.size→T j→S j):Fr S a w':=
 ⟨k.os.trans h.os,k.tape.trans h.tape,k.output.trans h.output,Nat.le_trans h.size k.size,
  fun i hi hn=>(k.block i (Nat.lt_of_lt_of_le hi h.size) (fun e=>hn (hs i hi e))).trans (h.block i hi hn)⟩
theorem Fr.below (h:Fr S w w') {B:Nat} (hB:B≤w.heap.size) (hs:∀ j,S j→B≤j):Below B w w':=
 ⟨h.os,h.tape,h.output,h.size,fun k hk=>h.block k (by omega) (fun e=>by have:=hs k e;omega)⟩
theorem Fr.cell (h:Fr S w w') {p:Addr} (hp:p.block<w.heap.size) (hs:¬ S p.block):w'.cell? p=w.cell? p:=World.cell?_of_block (w:=w) (h.block p.block hp hs)
theorem Fr.frozen (h:Fr S w w') {p:Addr} (hp:p.block<w.heap.size) (hs:¬ S p.block):w'.frozen? p=w.frozen? p:=World.frozen?_of_block (w:=w) (h.block p.block hp hs)
theorem Fr.blk (h:Fr S w w') {g:Nat} {t:TypeId} {cs:Array Value} (hb:Blk w g t cs) (hs:¬ S g):Blk w' g t cs:=(h.block g hb.lt hs).trans hb
theorem Fr.row {base:Nat} {e:TypeId} {size:Nat} {v:Value} {n:Nat} {xs:List Value} (h:Fr S w w') (ho:w.ownsRow base e size v n xs) (hs:∀ g,v.ownBlock=some g→¬ S g):w'.ownsRow base e size v n xs:=by
 obtain ⟨h1,h2⟩:=ho
 refine ⟨h1,?_⟩
 rcases h2 with h2|⟨g,cap,cur,hv,hg,hh,r⟩
 ·exact Or.inl h2
 ·have hlt:=lt_of_block hh
  subst hv
  exact Or.inr ⟨g,cap,cur,rfl,hg,(h.block g hlt (hs g rfl)).trans hh,r⟩
end
def Only (b:Nat):Nat→Prop:=fun k=>k=b
theorem Fr.noB {S:Nat→Prop} {w w':World} (h:Fr NoB w w'):Fr S w w':=h.mono (fun _ _ e=>e.elim)
theorem Fr.only {b o:Nat} {a w:World} (h:Fr (Only b) a w) (v:Value):Fr (Only b) a (w.setCell ⟨b,o,none⟩ v):=h.setCell (p:=⟨b,o,none⟩) rfl v
theorem A4:(∀ (a:Act) (d:Option Tmp) (v:Value),a.put d v=match d with|some d=>{ a with tmps:=a.tmps.setIfInBounds d v }|none=>a)∧(∀ (l:List Value) (i:Nat) (x:Value),l.toArray.setIfInBounds i x=(l.set i x).toArray)∧(∀ (a b:Value) (r:List Value),(a::r).set 0 b=b::r)∧(∀ (a b:Value) (r:List Value) (n:Nat),(a::r).set (n+1) b=a::r.set n b):=
 ⟨fun _ _ _=>rfl,fun _ _ _=>List.setIfInBounds_toArray ..,fun _ _ _=>rfl,fun _ _ _ _=>rfl⟩
theorem forall_u8 {p:UInt8→Bool} (h:(List.range 256).all (fun n=>p n.toUInt8)=true) (c:UInt8):p c=true:=by
 have hl:c.toNat∈List.range 256:=by simp only [List.mem_range];exact c.toNat_lt
 have:=List.all_eq_true.1 h _ hl
 simpa using this
end Go.Proofs.YtbifjamddbpcjaaGreatDoor
