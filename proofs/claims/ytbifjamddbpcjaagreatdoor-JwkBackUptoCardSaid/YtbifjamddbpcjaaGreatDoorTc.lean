/- JwkBack: appends of a row that came in, in a region that draws its order. -/
import Derived.Test.YtbifjamddbpcjaaGreatDoorYd
namespace Go.Proofs.YtbifjamddbpcjaaGreatDoor
open Go.RowKit
theorem RCells.one {S:Nat→Prop} {w:World}:∀ (l:List Jv) (cs:List Value),RCells S w l cs→∀ u∈cs,u.oneCell'=true
 | [],cs,h,u,hu=>by simp only [RCells] at h;subst h;cases hu
 | j::r,cs,h,u,hu=>by
  simp only [RCells] at h
  obtain ⟨v0,v1,v2,v3,v4,rest,rfl,h1,h2⟩:=h
  simp only [List.mem_cons] at hu
  rcases hu with rfl|rfl|rfl|rfl|rfl|hu
  ·exact h1.one _ (by simp)
  ·exact h1.one _ (by simp)
  ·exact h1.one _ (by simp)
  ·exact h1.one _ (by simp)
  ·exact h1.one _ (by simp)
  ·exact RCells.one r rest h2 u hu
structure Row0 (u:World) (g:Nat) (t:TypeId) (xs:List Value) (cur:Array Value):Prop where
 b:Blk u g t cur
 c:∀ (i:Nat) x,xs[i]?=some x→cur[i]?=some x
theorem Row0.cell {u:World} {g:Nat} {t:TypeId} {xs:List Value} {cur:Array Value} (h:Row0 u g t xs cur) (i:Nat) (x:Value) (hx:xs[i]?=some x):u.cell? ⟨g,i,none⟩=some x:=(h.b.cell i).trans (h.c i x hx)
theorem own_row0 {w:World} {lo n g cap:Nat} {t:TypeId} {size:Nat} {xs:List Value} (h:w.ownsRow lo t size (.slice (some ⟨g,0,none⟩) n cap) n xs) (hn:0<n):∃ cur,Row0 w g t xs cur:=by
 have hc:=@World.ownsRow.cells _ _ _ _ _ _ _ h
 rcases h.2 with ⟨_,h0⟩|⟨g',cap',cur,e,hg,hh,_⟩
 ·omega
 ·simp only [Value.slice.injEq,Option.some.injEq,Addr.mk.injEq,and_true,true_and] at e
  obtain ⟨rfl,rfl⟩:=e
  have hb:Blk w g t cur:=hh
  refine ⟨cur,hb,fun i x hx => ?_⟩
  have h1:=hc (g:=g) rfl i x hx
  rw [add_at,Nat.zero_add,hb.cell] at h1
  exact h1
theorem row_own {w:World} {lo g n cap:Nat} {t:TypeId} {size:Nat} {cs:Array Value} (h:Blk w g t cs) (hlo:lo≤g) (hn:n≤cap) (hm:cap≤maxLen) (hs:cs.size=cap*size) (hl:cs.toList.length=n*size):w.ownsRow lo t size (.slice (some ⟨g,0,none⟩) n cap) n cs.toList:=
 ⟨hl,Or.inr ⟨g,cap,cs,rfl,hlo,h,hn,hm,hs,List.take_of_length_le (Nat.le_of_eq hl)⟩⟩
structure AK (W u:World) (g:Nat) (ks:List Bs) (g':Nat) (w':World):Prop where
 row:∃ cur,Row0 w' g' 9 ((nUse::ks).map sV) cur
 fr:Fr NoB W w'
 sz:u.heap.size≤w'.heap.size
 lo:W.heap.size≤g'
 far:∀ y cs,Blk u y 31 cs→Blk w' y 31 cs
structure AL (W u:World) (g:Nat) (cs:List Value) (g':Nat) (w':World):Prop where
 row:∃ cur,Row0 w' g' 31 ([.int .i64 0,.int .i64 0,.string ⟨#[]⟩,.slice none 0 0,.slice none 0 0]++cs) cur
 fr:Fr NoB W w'
 sz:u.heap.size≤w'.heap.size
 lo:W.heap.size≤g'
 far:∀ y xs cur,Row0 u y 9 xs cur→Row0 w' y 9 xs cur
 farJ:∀ y xs,y≠g→Blk u y 31 xs→Blk w' y 31 xs
theorem ne_str_json:(9:TypeId)≠31:=by decide
theorem blk_ne2 {u:World} {y g:Nat} {t t':TypeId} {cs cs':Array Value} (h:Blk u y t cs) (h':Blk u g t' cs') (ht:t≠t'):y≠g:=fun e=>by
 subst e
 have e:some (Obj.cells cs t)=some (Obj.cells cs' t'):=(show u.heap[y]?=_ from h).symm.trans h'
 simp only [Option.some.injEq,Obj.cells.injEq] at e
 exact ht e.2.1
theorem step_use {ops:Array Oper} {o:Oper} {a:Act} {K:Act→World→Prop} {Q:Exit→Act→World→Prop} {E:Prop} (hgd:o.guard=none) (s x:Operand)
  (ho:o.op=.call { callee:=.builtin .append,args := #[s,x],argTypes := #[29,29] }) {W u:World} {g gk ok ck n n1:Nat} {ks:List Bs}
  (HK:Hid (n=ks.length∧n1=1+n∧0<n∧n≤1000∧gk<W.heap.size∧∀ (i:Nat) x,(ks.map sV)[i]?=some x→W.cell? ⟨gk,ok+i,none⟩=some x))
  (hs:a.eval s=.slice (some ⟨g,0,none⟩) 1 1) (hx:a.eval x=.slice (some ⟨gk,ok,none⟩) n ck) (hf:Fr NoB W u) (hb:Blk u g 9 #[.string ⟨#[117,115,101]⟩]) (hg:W.heap.size≤g)
  (h:∀ g' cap w',AK W u g ks g' w'→K (a.put o.dst (.slice (some ⟨g',0,none⟩) n1 cap)) w'):if Region.wanted o (yielded ops a.tmps)=true then Oper.wp Tryz.prog o a u K Q else E:=by
 obtain ⟨rfl,rfl,h0,h1,hgk,hc⟩:=HK.out
 obtain ⟨i0,hi0,hz0,hz1,hz2⟩:=info_parts info_str
 have hW:=hf.size
 refine step_append_lies u hgd s x 29 ho W.heap.size 9 i0 (.string ⟨#[]⟩) 1 16 Tryz.underlying29 hi0 hz0 hz1 hz2 rfl (by decide) (.slice (some ⟨g,0,none⟩) 1 1) 1 [.string ⟨#[117,115,101]⟩] hs (row_own (n:=1) (cap:=1) (cs := #[.string ⟨#[117,115,101]⟩]) hb hg (Nat.le_refl _) (by unfold maxLen;omega) rfl rfl) ⟨gk,ok,none⟩ ks.length ck (ks.map sV) hx (by simp)
  (fun j v hv=>by rw [add_at];exact (hf.cell (p:=⟨gk,ok+j,none⟩) hgk (fun e=>e)).trans (hc j v hv)) (fun v hv=>by obtain ⟨q,_,rfl⟩:=List.mem_map.1 hv;rfl) h0 (by unfold maxLen;omega) (by omega) hW u.heap.size rfl
  (fun g' cap w' h2 h3 h4 h5=>h g' cap w' ⟨own_row0 h2 (by omega),hf.grown h3 (fun j hj hl=>by simp [Value.ownBlock] at hj;omega),h3.size,?_,fun y cs hy => ?_⟩)
 ·rcases h4 with h4|h4
  ·simp [Value.ownBlock] at h4;omega
  ·omega
 ·exact ((Fr.refl (fun j=>j=g) u).grown h3 (fun j hj _=>by simpa [Value.ownBlock] using hj.symm)).blk hy (fun e=>blk_ne2 hb hy ne_str_json e.symm)
theorem step_nul {ops:Array Oper} {o:Oper} {a:Act} {K:Act→World→Prop} {Q:Exit→Act→World→Prop} {E:Prop} (hgd:o.guard=none) (s x:Operand)
  (ho:o.op=.call { callee:=.builtin .append,args := #[s,x],argTypes := #[28,28] }) {W u:World} {g gk ok ck n n1:Nat} {cs:List Value}
  (HK:Hid (cs.length=n*5∧n1=1+n∧0<n∧n≤1000∧gk<W.heap.size∧(∀ v∈cs,v.oneCell'=true)∧∀ (i:Nat) x,cs[i]?=some x→W.cell? ⟨gk,ok+i,none⟩=some x))
  (hs:a.eval s=.slice (some ⟨g,0,none⟩) 1 1) (hx:a.eval x=.slice (some ⟨gk,ok,none⟩) n ck) (hf:Fr NoB W u) (hb:Blk u g 31 zj) (hg:W.heap.size≤g)
  (h:∀ g' cap w',AL W u g cs g' w'→K (a.put o.dst (.slice (some ⟨g',0,none⟩) n1 cap)) w'):if Region.wanted o (yielded ops a.tmps)=true then Oper.wp Tryz.prog o a u K Q else E:=by
 obtain ⟨hl,rfl,h0,h1,hgk,hone,hc⟩:=HK.out
 obtain ⟨i0,hi0,hz0,hz1,hz2⟩:=info_parts info_json
 have hW:=hf.size
 refine step_append_lies u hgd s x 28 ho W.heap.size 31 i0 (jV 0 0 [] (.slice none 0 0) (.slice none 0 0)) 5 80 Tryz.underlying28 hi0 hz0 hz1 hz2 rfl (by decide) (.slice (some ⟨g,0,none⟩) 1 1) 1 [.int .i64 0,.int .i64 0,.string ⟨#[]⟩,.slice none 0 0,.slice none 0 0] hs (row_own (n:=1) (cap:=1) (cs:=zj) hb hg (Nat.le_refl _) (by unfold maxLen;omega) rfl rfl) ⟨gk,ok,none⟩ n ck cs hx hl
  (fun j v hv=>by rw [add_at];exact (hf.cell (p:=⟨gk,ok+j,none⟩) hgk (fun e=>e)).trans (hc j v hv)) hone h0 (by unfold maxLen;omega) (by omega) hW u.heap.size rfl
  (fun g' cap w' h2 h3 h4 h5=>h g' cap w' ⟨own_row0 h2 (by omega),hf.grown h3 (fun j hj hl=>by simp [Value.ownBlock] at hj;omega),h3.size,?_,fun y xs cur hy=>⟨?_,hy.c⟩,fun y xs hne hy => ?_⟩)
 ·rcases h4 with h4|h4
  ·simp [Value.ownBlock] at h4;omega
  ·omega
 ·exact ((Fr.refl (fun j=>j=g) u).grown h3 (fun j hj _=>by simpa [Value.ownBlock] using hj.symm)).blk hy.b (fun e=>blk_ne2 hy.b hb ne_str_json e)
 ·exact ((Fr.refl (fun j=>j=g) u).grown h3 (fun j hj _=>by simpa [Value.ownBlock] using hj.symm)).blk hy (fun e=>hne e)
end Go.Proofs.YtbifjamddbpcjaaGreatDoor
