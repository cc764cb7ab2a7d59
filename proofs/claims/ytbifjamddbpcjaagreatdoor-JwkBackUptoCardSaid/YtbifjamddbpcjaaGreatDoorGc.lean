/- SHA-256, the program's: next. -/
import Derived.Test.YtbifjamddbpcjaaGreatDoorGa
import Derived.Test.YtbifjamddbpcjaaGreatDoorRs
namespace Go.Proofs.YtbifjamddbpcjaaGreatDoor
set_option maxRecDepth 100000
set_option maxHeartbeats 25600000
open Go.RowKit
def wordM (B:Bs) (i:Nat):Nat→Int
 | 0=>0
 | m+1=>bits .or .u32 (wordM B i m*256 % 4294967296) ((B.getD (4*i+m) 0).toNat:Int)
def wordsP (B:Bs) (i:Nat):List Int:=(List.range i).map (fun k=>wordM B k 4)++List.replicate (64 - i) 0
theorem words_len {B:Bs} {i:Nat} (h:i≤64):(wordsP B i).length=64:=by simp [wordsP];omega
theorem words_at {B:Bs} {i:Nat} (hl:i<(wordsP B i).length):(wordsP B i)[i]=0:=by
 simp [wordsP]
theorem words_set0 {B:Bs} {i:Nat} (h:i<64):(wordsP B i).set i 0=wordsP B i:=by
 have hl:=words_len (B:=B) (i:=i) (by omega)
 have h2:i<(wordsP B i).length:=by omega
 have h3:=List.set_getElem_self h2
 rwa [words_at h2] at h3
theorem words_next {B:Bs} {i:Nat} (h:i<64):(wordsP B i).set i (wordM B i 4)=wordsP B (i+1):=by
 unfold wordsP
 rw [List.set_append_right _ _ (by simp)]
 rw [List.range_succ,List.map_append,List.append_assoc]
 congr 1
 obtain ⟨k,hk⟩:∃ k,64 - i=k+1:=⟨64 - i - 1,by omega⟩
 rw [hk,show 64 - (i+1)=k by omega]
 simp [List.replicate_succ]
def schedX (L:List Int) (i:Nat):Int:=IntKind.u32.wrap (IntKind.u32.wrap (IntKind.u32.wrap (L.getD (i - 16) 0+mixP (L.getD (i - 15) 0) 7 18 3 true)+L.getD (i - 7) 0)+mixP (L.getD (i - 2) 0) 17 19 10 true)
def schedM (L:List Int):Nat→List Int
 | 0=>L
 | m+1=>if m<16 then L else (schedM L m).set m (schedX (schedM L m) m)
theorem sched_len (L:List Int):∀ m,(schedM L m).length=L.length
 | 0=>rfl
 | m+1=>by rw [schedM];split<;>simp [sched_len L m]
theorem sched_low (L:List Int):∀ m,m≤16→schedM L m=L
 | 0,_=>rfl
 | m+1,h=>by rw [schedM,if_pos (by omega)]
theorem sched_next (L:List Int) {m:Nat} (h:16≤m):(schedM L m).set m (schedX (schedM L m) m)=schedM L (m+1):=by rw [schedM,if_neg (by omega)]
def tP (e f g h k x:Int):Int:=IntKind.u32.wrap (IntKind.u32.wrap (IntKind.u32.wrap (IntKind.u32.wrap (h+mixP e 6 11 25 false)+bits .xor .u32 (bits .and .u32 e f) (bits .and .u32 (bits .xor .u32 IntKind.u32.max e) g))+k)+x)
def uP (a b c:Int):Int:=IntKind.u32.wrap (mixP a 2 13 22 false+bits .xor .u32 (bits .xor .u32 (bits .and .u32 a b) (bits .and .u32 a c)) (bits .and .u32 b c))
def roundP (k x:Int):List Int→List Int
 | [a,b,c,d,e,f,g,h]=>[IntKind.u32.wrap (tP e f g h k x+uP a b c),a,b,c,IntKind.u32.wrap (d+tP e f g h k x),e,f,g]
 | l=>l
theorem round_len (k x:Int) (l:List Int):(roundP k x l).length=l.length:=by unfold roundP;split<;>rfl
def roundsM (L st:List Int):Nat→List Int
 | 0=>st
 | m+1=>roundP (keysP.getD m 0) (L.getD m 0) (roundsM L st m)
theorem rounds_len (L st:List Int):∀ m,(roundsM L st m).length=st.length
 | 0=>rfl
 | m+1=>by rw [roundsM,round_len,rounds_len L st m]
def addM (st V:List Int):Nat→List Int
 | 0=>V
 | m+1=>(addM st V m).set m (IntKind.u32.wrap ((addM st V m).getD m 0+st.getD m 0))
theorem add_len (st V:List Int):∀ m,(addM st V m).length=V.length
 | 0=>rfl
 | m+1=>by rw [addM,List.length_set,add_len st V m]
def nextP (st:List Int) (B:Bs):List Int:=addM st (roundsM (schedM (wordsP B 16) 64) st 64) 8
theorem next_len (st:List Int) (B:Bs):(nextP st B).length=st.length:=by rw [nextP,add_len,rounds_len]
theorem u32C_one (l:List Int):(u32C l).all (·.oneCell')=true:=by simp [Value.oneCell']
theorem eight_of {l:List Int} (h:l.length=8):∃ a b c d e f g k,l=[a,b,c,d,e,f,g,k]:=by
 match l,h with
 | [a,b,c,d,e,f,g,k],_=>exact ⟨a,b,c,d,e,f,g,k,rfl⟩
abbrev z8:Array Value := #[.int .u32 0,.int .u32 0,.int .u32 0,.int .u32 0,.int .u32 0,.int .u32 0,.int .u32 0,.int .u32 0]
structure NX (w:World) (st L:List Int) (u:World):Prop where
 s:Blk u w.heap.size 224 (u32C st)
 k:Blk u (w.heap.size+1) 222 kindC
 r:Blk u (w.heap.size+2) 224 z8
 wd:Blk u (w.heap.size+3) 155 (u32C L)
 fr:Fr NoB w u
theorem NX.start (w:World) (st L:List Int):NX w st L ((((w.alloc (.cells (u32C st) 224)).alloc (.cells kindC 222)).alloc (.cells z8 224)).alloc (.cells (u32C L) 155)):=by
 refine ⟨(((Blk.new w _ _).alloc _).alloc _).alloc _,?_,?_,?_,((((Fr.refl _ _).alloc _).alloc _).alloc _).alloc _⟩
 ·have:=((Blk.new (w.alloc (.cells (u32C st) 224)) 222 kindC).alloc (.cells z8 224)).alloc (.cells (u32C L) 155)
  simpa using this
 ·have:=(Blk.new ((w.alloc (.cells (u32C st) 224)).alloc (.cells kindC 222)) 224 z8).alloc (.cells (u32C L) 155)
  simpa using this
 ·have:=Blk.new (((w.alloc (.cells (u32C st) 224)).alloc (.cells kindC 222)).alloc (.cells z8 224)) 155 (u32C L)
  simpa using this
theorem NX.word {w u:World} {st L:List Int} (h:NX w st L u) (i:Nat) (x:Int):NX w st (L.set i x) (u.setCell ⟨w.heap.size+3,i,none⟩ (.int .u32 x)):=by
 have f:Fr (Only (w.heap.size+3)) u (u.setCell ⟨w.heap.size+3,i,none⟩ (.int .u32 x)):=(Fr.refl _ _).only _
 refine ⟨f.blk h.s (fun (e:w.heap.size=w.heap.size+3)=>by omega),f.blk h.k (fun (e:w.heap.size+1=w.heap.size+3)=>by omega),f.blk h.r (fun (e:w.heap.size+2=w.heap.size+3)=>by omega),?_,h.fr.setCell_new (p:=⟨w.heap.size+3,i,none⟩) (by simp) _⟩
 have:=h.wd.set_ i (.int .u32 x)
 rwa [u32C_set] at this
theorem NX.noB {w u u':World} {st L:List Int} (h:NX w st L u) (f:Fr NoB u u'):NX w st L u':=
 ⟨f.blk h.s (fun e=>e),f.blk h.k (fun e=>e),f.blk h.r (fun e=>e),f.blk h.wd (fun e=>e),h.fr.trans f⟩
theorem Fr.cellOf {w u:World} (f:Fr NoB w u) {p:Addr} {v:Value} (h:w.cell? p=some v):u.cell? p=some v:=by
 refine (f.cell (p:=p) ?_ (fun e=>e)).trans h
 rcases Nat.lt_or_ge p.block w.heap.size with hlt|hge
 ·exact hlt
 ·unfold World.cell? at h;rw [Array.getElem?_eq_none hge] at h;simp at h
theorem a8_back {fn:Func} (h:fn.results = #[.cell 8 224]) (tmps:Array Value) (w:World) (g:Nat) (Z:List Int) (hz:Z.length=8) (hp:tmps.getD 8 undef=.pointer (some ⟨g,0,none⟩)) (hb:Blk w g 224 (u32C Z)) :
  (results fn tmps).run Tryz.prog w=.ok (.agg (u32C Z)) w:=results_cell_row h tmps w g _ _ _ _ hp hb Tryz.underlying224 rfl (by rw [size_a8,u32C_size,hz])
theorem size_u32:(Tryz.prog.info? 155).map (·.size)=some 1:=by kernel_rfl
theorem seven_src {w:World} {vb:Nat} {a b c d e f g y:Int} (h:Blk w vb 224 (u32C [a,b,c,d,e,f,g,y])):∀ j v,([a,b,c,d,e,f,g].map (Value.int .u32))[j]?=some v→w.cell? ((⟨vb,0,none⟩:Addr).add j)=some v:=by
 intro j v hv
 rw [add_at,Nat.zero_add,h.cell]
 match j with
 | 0|1|2|3|4|5|6=>exact hv
 | j+7=>simp at hv
structure NV (w:World) (st L V:List Int) (vb:Nat) (u:World):Prop where
 x:NX w st L u
 v:Blk u vb 224 (u32C V)
 hi:w.heap.size+4≤vb
theorem NV.start {w u:World} {st L:List Int} (h:NX w st L u):NV w st L st u.heap.size ((u.alloc (.cells z8 224)).setRow u.heap.size (u32C st)):=by
 have hs:=h.wd.lt
 exact ⟨h.noB (((Fr.refl _ _).alloc _).setRow _ _ (Or.inl (Nat.le_refl _))),(Blk.new u 224 z8).setRow _,by omega⟩
theorem NV.noB {w u u':World} {st L V:List Int} {vb:Nat} (h:NV w st L V vb u) (f:Fr NoB u u'):NV w st L V vb u':=
 ⟨h.x.noB f,f.blk h.v (fun e=>e),h.hi⟩
theorem NV.only {w u u':World} {st L V V':List Int} {vb:Nat} (h:NV w st L V vb u) (f:Fr (Only vb) u u') (hv:Blk u' vb 224 (u32C V')):NV w st L V' vb u':=by
 have hi:=h.hi
 have h2:=h.x.fr
 have e:∀ k,k<w.heap.size+4→¬ Only vb k:=fun k hk (e:k=vb)=>by omega
 exact ⟨⟨f.blk h.x.s (e _ (by omega)),f.blk h.x.k (e _ (by omega)),f.blk h.x.r (e _ (by omega)),f.blk h.x.wd (e _ (by omega)),⟨by rw [f.os,h2.os],by rw [f.tape,h2.tape],by rw [f.output,h2.output],Nat.le_trans h2.size f.size,fun k hk hn=>(f.block k (by have:=h2.size;omega) (e _ (by omega))).trans (h2.block k hk hn)⟩⟩,hv,hi⟩
theorem NV.set {w u:World} {st L V:List Int} {vb:Nat} (h:NV w st L V vb u) (i:Nat) (x:Int):NV w st L (V.set i x) vb (u.setCell ⟨vb,i,none⟩ (.int .u32 x)):=by
 have:=h.v.set_ i (.int .u32 x)
 rw [u32C_set] at this
 exact h.only ((Fr.refl _ _).only _) this
theorem NV.row {w u:World} {st L V:List Int} {vb:Nat} (h:NV w st L V vb u) (V':List Int):NV w st L V' vb (u.setRow vb (u32C V')):=
 h.only (Fr.rowO _ _ _) (h.v.setRow _)
theorem next_any (st:List Int) (B:Bs) (hb ob bc kb kc:Nat) (w:World) (hst:st.length=8) (hbc:64≤bc) (hbl:hb<w.heap.size) (hBc:∀ j,j<64→w.cell? ⟨hb,ob+j,none⟩=some (.int .u8 ((B.getD j 0).toNat:Int)))
  (hK:Blk w kb 155 (u32C keysP)) :
  Calls Tryz.prog 155 #[.agg (u32C st),.slice (some ⟨hb,ob,none⟩) 64 bc,.slice (some ⟨kb,0,none⟩) 64 kc,.agg kindC] w fun e w'=>e=.returned (.agg (u32C (nextP st B)))∧Fr NoB w w':=by
 have hmk:∀ u:World,(Instr.makeSlice 117 (.int .i64 64) (.int .i64 64)).run Tryz.prog u=.ok (.slice (some ⟨u.heap.size,0,none⟩) 64 64) (u.alloc (.cells (u32C (wordsP B 0)) 155)):=fun _=>by kernel_rfl
 go_enter Tryz.func155,Tryz.ntmps155
 go_upto_block 0 with fail
 have hn0:=NX.start w st (wordsP B 0)
 have e2:w.heap.size+1+1=w.heap.size+2:=rfl
 have e3:w.heap.size+1+1+1=w.heap.size+3:=rfl
 generalize ((((w.alloc (.cells (u32C st) 224)).alloc (.cells kindC 222)).alloc (.cells z8 224)).alloc (.cells (u32C (wordsP B 0)) 155))=W at *
 clear hmk
 go_wp2_with fail
 go_loopw [22] (fun v wr=>∃ i:Nat,i≤16∧v=.int .i64 i∧NX w st (wordsP B i) wr) (fun v _=>16 - (intOf v).toNat)
 case atStart=>exact ⟨0,by omega,rfl,hn0⟩
 case round=>
  obtain ⟨i,hi,rfl,hn⟩:=hrel
  by_cases hlt:i<16
  ·have k1:(i:Int)<16:=by omega
   have k0:(0:Int)≤i:=by omega
   have cb:wr.cell? ⟨w.heap.size+1,0,none⟩=some (.int .i64 32):=(hn.k.cell 0).trans rfl
   have q1:(4:Int)*((i:Int)+1)≤bc:=by omega
   have q2:¬ bc=4*i:=by omega
   have q3:(0:Int)≤4*((i:Int)+1):=by omega
   have q4:(0:Int)≤4*(i:Int):=by omega
   have q5:(4:Int)*(i:Int)≤4*((i:Int)+1):=by omega
   have q6:((4:Int)*((i:Int)+1)).toNat=4*i+4:=by omega
   have q7:((4:Int)*(i:Int)).toNat=4*i:=by omega
   have q8:4*i+4 - 4*i=4:=by omega
   go_wp2_with fail
   go_loopw [39] (fun v wr=>∃ m:Nat,m≤4∧v=.int .i64 m∧NX w st ((wordsP B i).set i (wordM B i m)) wr) (fun v _=>4 - (intOf v).toNat)
   case atStart=>exact ⟨0,by omega,rfl,by rw [show wordM B i 0=0 from rfl,words_set0 (by omega)];exact hn⟩
   case round=>
    clear cb hn
    obtain ⟨m,hm,rfl,hn⟩:=hrel
    have hwl:=words_len (B:=B) (i:=i) (by omega)
    by_cases hmt:m<4
    ·have p1:(m:Int)<4:=by omega
     have p0:(0:Int)≤m:=by omega
     have cB:wr.cell? ⟨hb,ob+4*i+m,none⟩=some (.int .u8 ((B.getD (4*i+m) 0).toNat:Int)):=by
      rw [Nat.add_assoc]
      exact (hn.fr.cell (p:=⟨hb,ob+(4*i+m),none⟩) hbl (fun e=>e)).trans (hBc _ (by omega))
     have cW:wr.cell? ⟨w.heap.size+3,i,none⟩=some (.int .u32 (wordM B i m)):=by
      rw [hn.wd.cell,u32C_get (by rw [List.length_set];omega)]
      simp
     have zW:wr.frozen? ⟨w.heap.size+3,i,none⟩=false:=hn.wd.frozen i
     have cW':wr.cell? ⟨w.heap.size+1+1+1,i,none⟩=some (.int .u32 (wordM B i m)):=cW
     have zW':wr.frozen? ⟨w.heap.size+1+1+1,i,none⟩=false:=zW
     have hb8:=(B.getD (4*i+m) 0).toNat_lt
     have k64:(i:Int)<64:=by omega
     have HX:Hid (bits .or .u32 (wordM B i m*256 % 4294967296) ((B.getD (4*i+m) 0).toNat:Int)=wordM B i (m+1)):=Lib.hid rfl
     have HNX:=Lib.hid (hn.word i (wordM B i (m+1)))
     generalize hx1:wordM B i (m+1)=x' at *
     have HX1:=Lib.hid hx1
     clear hx1
     generalize wordM B i m=x at *
     generalize (B.getD (4*i+m) 0).toNat=by8 at *
     clear hn cW zW
     go_wp2_with fail
     rw [HX.out]
     go_roundw
     case rel=>exact ⟨m+1,by omega,by simp,by have:=HNX.out;rw [List.set_set] at this;rw [HX1.out];exact this⟩
     case measure=>simp [intOf];omega
    ·obtain rfl:m=4:=by omega
     rw [words_next (by omega)] at hn
     go_wp2_with fail
     go_roundw
     case rel=>exact ⟨i+1,by omega,by simp,hn⟩
     case measure=>simp [intOf];omega
  ·have hi16:i=16:=by omega
   rw [hi16] at hn
   have hlt':¬ (i:Int)<16:=by omega
   clear hi16 hlt hi
   go_wp2_with fail
   go_loopw [13] (fun v wr=>∃ i:Nat,16≤i∧i≤64∧v=.int .i64 i∧NX w st (schedM (wordsP B 16) i) wr) (fun v _=>64 - (intOf v).toNat)
   case atStart=>exact ⟨16,Nat.le_refl _,by omega,rfl,by rw [sched_low _ _ (Nat.le_refl _)];exact hn⟩
   case round=>
    clear hn
    obtain ⟨i,h16,hi,rfl,hn⟩:=hrel
    have hl64:(schedM (wordsP B 16) i).length=64:=by rw [sched_len,words_len (by omega)]
    by_cases hlt:i<64
    ·have k1:(i:Int)<64:=by omega
     have k0:(0:Int)≤i:=by omega
     have HN:=Lib.hid (sched_next (wordsP B 16) h16)
     have HX:Hid (∀ L:List Int,L.length=64→NX w st L wr→∀ j,j<64→wr.cell? ⟨w.heap.size+1+1+1,j,none⟩=some (.int .u32 (L.getD j 0))):=Lib.hid (fun L hL hn j hj=>by
      show wr.cell? ⟨w.heap.size+3,j,none⟩=_
      rw [hn.wd.cell,u32C_get (by omega),List.getD_eq_getElem?_getD,List.getElem?_eq_getElem (by omega)]
      rfl)
     generalize schedM (wordsP B 16) i=L at *
     have hSx:schedX L i=IntKind.u32.wrap (IntKind.u32.wrap (IntKind.u32.wrap (L.getD (i - 16) 0+mixP (L.getD (i - 15) 0) 7 18 3 true)+L.getD (i - 7) 0)+mixP (L.getD (i - 2) 0) 17 19 10 true):=rfl
     have d0:=HX.out L hl64 hn (i - 16) (by omega)
     have d1:=HX.out L hl64 hn (i - 15) (by omega)
     have d2:=HX.out L hl64 hn (i - 7) (by omega)
     have d3:=HX.out L hl64 hn (i - 2) (by omega)
     have hnk:=hn.k
     have e0:wr.cell? ⟨w.heap.size+1,0,none⟩=some (.int .i64 32):=(hnk.cell 0).trans rfl
     have e1:wr.cell? ⟨w.heap.size+1,1,none⟩=some (.int .i64 7):=(hnk.cell 1).trans rfl
     have e2:wr.cell? ⟨w.heap.size+1,2,none⟩=some (.int .i64 18):=(hnk.cell 2).trans rfl
     have e3:wr.cell? ⟨w.heap.size+1,3,none⟩=some (.int .i64 3):=(hnk.cell 3).trans rfl
     have e4:wr.cell? ⟨w.heap.size+1,4,none⟩=some (.int .i64 17):=(hnk.cell 4).trans rfl
     have e5:wr.cell? ⟨w.heap.size+1,5,none⟩=some (.int .i64 19):=(hnk.cell 5).trans rfl
     have e6:wr.cell? ⟨w.heap.size+1,6,none⟩=some (.int .i64 10):=(hnk.cell 6).trans rfl
     have z0:wr.frozen? ⟨w.heap.size+1+1+1,i,none⟩=false:=hn.wd.frozen i
     have HM1:Hid (∀ u,Calls Tryz.prog 195 #[.int .u32 (L.getD (i - 15) 0),.agg #[.int .i64 7,.int .i64 18,.int .i64 3],.int .i64 32,.bool true] u fun e w'=>e=.returned (.int .u32 (mixP (L.getD (i - 15) 0) 7 18 3 true))∧Fr NoB u w'):=Lib.hid (fun u=>mixed_any _ 7 18 3 true u (by omega) (by omega) (by omega))
     have HM2:Hid (∀ u,Calls Tryz.prog 195 #[.int .u32 (L.getD (i - 2) 0),.agg #[.int .i64 17,.int .i64 19,.int .i64 10],.int .i64 32,.bool true] u fun e w'=>e=.returned (.int .u32 (mixP (L.getD (i - 2) 0) 17 19 10 true))∧Fr NoB u w'):=Lib.hid (fun u=>mixed_any _ 17 19 10 true u (by omega) (by omega) (by omega))
     generalize L.getD (i - 16) 0=A0 at *
     generalize L.getD (i - 15) 0=A1 at *
     generalize L.getD (i - 7) 0=A2 at *
     generalize L.getD (i - 2) 0=A3 at *
     generalize mixP A1 7 18 3 true=M1 at *
     generalize mixP A3 17 19 10 true=M2 at *
     have HSx:=Lib.hid hSx
     clear hSx
     have hNs:wr.heap.size > w.heap.size+3:=hn.wd.lt
     have HNi:Hid (∀ u,Fr NoB wr u→(∃ x,u.cell? ⟨w.heap.size+1+1+1,i,none⟩=some x)∧u.frozen? ⟨w.heap.size+1+1+1,i,none⟩=false):=Lib.hid (fun u f=>⟨⟨_,(f.cell (p:=⟨w.heap.size+1+1+1,i,none⟩) (by simp;omega) (fun e=>e)).trans (HX.out L hl64 hn i hlt)⟩,(f.frozen (p:=⟨w.heap.size+1+1+1,i,none⟩) (by simp;omega) (fun e=>e)).trans z0⟩)
     have HS:Hid (∀ u,Fr NoB wr u→(fun w'=>w'.cell? ⟨w.heap.size+1+1+1,i - 16,none⟩=some (.int .u32 A0)∧w'.cell? ⟨w.heap.size+1+1+1,i - 15,none⟩=some (.int .u32 A1)∧w'.cell? ⟨w.heap.size+1+1+1,i - 7,none⟩=some (.int .u32 A2)∧w'.cell? ⟨w.heap.size+1+1+1,i - 2,none⟩=some (.int .u32 A3)∧w'.cell? ⟨w.heap.size+1,0,none⟩=some (.int .i64 32)∧w'.cell? ⟨w.heap.size+1,1,none⟩=some (.int .i64 7)∧w'.cell? ⟨w.heap.size+1,2,none⟩=some (.int .i64 18)∧w'.cell? ⟨w.heap.size+1,3,none⟩=some (.int .i64 3)∧w'.cell? ⟨w.heap.size+1,4,none⟩=some (.int .i64 17)∧w'.cell? ⟨w.heap.size+1,5,none⟩=some (.int .i64 19)∧w'.cell? ⟨w.heap.size+1,6,none⟩=some (.int .i64 10)) u):=Lib.hid (fun u f=>by
      have c:=fun (g o:Nat) (v:Value) (hg:g<wr.heap.size) (h:wr.cell? ⟨g,o,none⟩=some v)=>(f.cell (p:=⟨g,o,none⟩) hg (fun e=>e)).trans h
      exact ⟨c _ _ _ (by omega) d0,c _ _ _ (by omega) d1,c _ _ _ (by omega) d2,c _ _ _ (by omega) d3,c _ _ _ (by omega) e0,c _ _ _ (by omega) e1,c _ _ _ (by omega) e2,c _ _ _ (by omega) e3,c _ _ _ (by omega) e4,c _ _ _ (by omega) e5,c _ _ _ (by omega) e6⟩)
     have HS2:Hid (∀ u,Fr NoB wr u→∀ x,(fun w'=>w'.cell? ⟨w.heap.size+1+1+1,i - 16,none⟩=some (.int .u32 A0)∧w'.cell? ⟨w.heap.size+1+1+1,i - 15,none⟩=some (.int .u32 A1)∧w'.cell? ⟨w.heap.size+1+1+1,i - 7,none⟩=some (.int .u32 A2)∧w'.cell? ⟨w.heap.size+1+1+1,i - 2,none⟩=some (.int .u32 A3)∧w'.cell? ⟨w.heap.size+1,0,none⟩=some (.int .i64 32)∧w'.cell? ⟨w.heap.size+1,1,none⟩=some (.int .i64 7)∧w'.cell? ⟨w.heap.size+1,2,none⟩=some (.int .i64 18)∧w'.cell? ⟨w.heap.size+1,3,none⟩=some (.int .i64 3)∧w'.cell? ⟨w.heap.size+1,4,none⟩=some (.int .i64 17)∧w'.cell? ⟨w.heap.size+1,5,none⟩=some (.int .i64 19)∧w'.cell? ⟨w.heap.size+1,6,none⟩=some (.int .i64 10)) (u.setCell ⟨w.heap.size+1+1+1,i,none⟩ x)):=Lib.hid (fun u f x=>by
      obtain ⟨a0,a1,a2,a3,a4,a5,a6,a7,a8,a9,a10⟩:=HS.out u f
      have c:∀ (g o:Nat) (v:Value),¬ (g=w.heap.size+1+1+1∧o=i)→u.cell? ⟨g,o,none⟩=some v→(u.setCell ⟨w.heap.size+1+1+1,i,none⟩ x).cell? ⟨g,o,none⟩=some v:=fun g o v hne h=>by
       rw [World.cell?_setCell_other (h:=fun e=>hne (by simp at e;exact ⟨e.1.symm,e.2.symm⟩))];exact h
      exact ⟨c _ _ _ (by omega) a0,c _ _ _ (by omega) a1,c _ _ _ (by omega) a2,c _ _ _ (by omega) a3,c _ _ _ (by omega) a4,c _ _ _ (by omega) a5,c _ _ _ (by omega) a6,c _ _ _ (by omega) a7,c _ _ _ (by omega) a8,c _ _ _ (by omega) a9,c _ _ _ (by omega) a10⟩)
     have s16:(i:Int) - 16=((i - 16:Nat):Int):=by omega
     have u16:((i - 16:Nat):Int)<64:=by omega
     have n16:(0:Int)≤((i - 16:Nat):Int):=by omega
     have w16:IntKind.i64.wrap ((i - 16:Nat):Int)=((i - 16:Nat):Int):=IntWalk.i64_in _ (by omega)
     generalize i - 16=j0 at *
     have s15:(i:Int) - 15=((i - 15:Nat):Int):=by omega
     have u15:((i - 15:Nat):Int)<64:=by omega
     have n15:(0:Int)≤((i - 15:Nat):Int):=by omega
     have w15:IntKind.i64.wrap ((i - 15:Nat):Int)=((i - 15:Nat):Int):=IntWalk.i64_in _ (by omega)
     generalize i - 15=j1 at *
     have s7:(i:Int) - 7=((i - 7:Nat):Int):=by omega
     have u7:((i - 7:Nat):Int)<64:=by omega
     have n7:(0:Int)≤((i - 7:Nat):Int):=by omega
     have w7:IntKind.i64.wrap ((i - 7:Nat):Int)=((i - 7:Nat):Int):=IntWalk.i64_in _ (by omega)
     generalize i - 7=j2 at *
     have s2:(i:Int) - 2=((i - 2:Nat):Int):=by omega
     have u2:((i - 2:Nat):Int)<64:=by omega
     have n2:(0:Int)≤((i - 2:Nat):Int):=by omega
     have w2:IntKind.i64.wrap ((i - 2:Nat):Int)=((i - 2:Nat):Int):=IntWalk.i64_in _ (by omega)
     generalize i - 2=j3 at *
     go_wp2_with fail
     go_region_held3 (fun w'=>w'.cell? ⟨w.heap.size+1+1+1,j0,none⟩=some (.int .u32 A0)∧w'.cell? ⟨w.heap.size+1+1+1,j1,none⟩=some (.int .u32 A1)∧w'.cell? ⟨w.heap.size+1+1+1,j2,none⟩=some (.int .u32 A2)∧w'.cell? ⟨w.heap.size+1+1+1,j3,none⟩=some (.int .u32 A3)∧w'.cell? ⟨w.heap.size+1,0,none⟩=some (.int .i64 32)∧w'.cell? ⟨w.heap.size+1,1,none⟩=some (.int .i64 7)∧w'.cell? ⟨w.heap.size+1,2,none⟩=some (.int .i64 18)∧w'.cell? ⟨w.heap.size+1,3,none⟩=some (.int .i64 3)∧w'.cell? ⟨w.heap.size+1,4,none⟩=some (.int .i64 17)∧w'.cell? ⟨w.heap.size+1,5,none⟩=some (.int .i64 19)∧w'.cell? ⟨w.heap.size+1,6,none⟩=some (.int .i64 10)) (first|go_keep|(exact HS.out _ f2)|(exact HS2.out _ f2 _)|(exact HS.out _ f1)) (first|(go_at_call 195;(with_reducible refine (HM1.out _).mono ?_);rintro e v1 ⟨rfl,f1'⟩;have f1:=(Fr.refl NoB wr).drew.trans f1')|(go_at_call 195;(with_reducible refine (HM2.out _).mono ?_);rintro e v2 ⟨rfl,f2'⟩;have f2:=f1.trans f2';obtain ⟨⟨xS,cS⟩,zS⟩:=HNi.out _ f2))
     go_wp2_with fail
     go_roundw
     case rel=>exact ⟨i+1,by omega,by omega,by simp,by rw [← HN.out,HSx.out];exact (hn.noB f2).word i _⟩
     case measure=>simp [intOf];omega
    ·have hi64:i=64:=by omega
     have k64:¬ (i:Int)<64:=by omega
     rw [hi64] at hn
     have hLl:(schedM (wordsP B 16) 64).length=64:=by rw [sched_len,words_len (by omega)]
     have HR:=Lib.hid (show nextP st B=addM st (roundsM (schedM (wordsP B 16) 64) st 64) 8 from rfl)
     clear hl64
     generalize schedM (wordsP B 16) 64=L at *
     have hns:=hn.s
     have hv0:=NV.start hn
     clear hi64 hlt h16 hi
     go_upto_block 6 with (first|(refine wpList_load_row rfl 224 _ rfl w.heap.size rfl 224 _ _ _ hns Tryz.underlying224 rfl (by rw [size_a8,u32C_size,hst]) ?_)|(refine wpList_store_row rfl 224 _ _ rfl wr.heap.size (u32C st) rfl rfl 224 _ (Blk.new wr 224 z8) (by rw [size_a8,u32C_size,hst]) (by rw [u32C_size,hst];rfl) (u32C_one st) ?_))
     generalize (wr.alloc (.cells z8 224)).setRow wr.heap.size (u32C st)=W5 at *
     clear hns hn
     generalize wr.heap.size=vb at *
     go_wp2_with fail
     go_loopw [101] (fun v wr=>∃ m:Nat,m≤64∧v=.int .i64 m∧NV w st L (roundsM L st m) vb wr) (fun v _=>64 - (intOf v).toNat)
     case atStart=>exact ⟨0,by omega,rfl,hv0⟩
     case round=>
      clear hv0
      obtain ⟨m,hm,rfl,hn⟩:=hrel
      have hVl:(roundsM L st m).length=8:=by rw [rounds_len,hst]
      have HV:=Lib.hid (show roundP (keysP.getD m 0) (L.getD m 0) (roundsM L st m)=roundsM L st (m+1) from rfl)
      have hnk:=hn.x.k
      have hnw:=hn.x.wd
      have hkk:=hn.x.fr.blk hK (fun e=>e)
      have HKc:Hid (m<64→wr.cell? ⟨kb,m,none⟩=some (.int .u32 (keysP.getD m 0))):=Lib.hid (fun h=>by
       rw [hkk.cell,u32C_get (show m<keysP.length from h),List.getD_eq_getElem?_getD,List.getElem?_eq_getElem (show m<keysP.length from h)];rfl)
      have HWc:Hid (m<64→wr.cell? ⟨w.heap.size+1+1+1,m,none⟩=some (.int .u32 (L.getD m 0))):=Lib.hid (fun h=>by
       show wr.cell? ⟨w.heap.size+3,m,none⟩=_
       rw [hnw.cell,u32C_get (by omega),List.getD_eq_getElem?_getD,List.getElem?_eq_getElem (by omega)];rfl)
      generalize hVe:roundsM L st m=V at *
      have HVe:=Lib.hid hVe
      clear hVe
      obtain ⟨a,b,c,d,e,f,g,y,rfl⟩:=eight_of hVl
      by_cases hlt:m<64
      ·have k1:(m:Int)<64:=by omega
       have k0:(0:Int)≤m:=by omega
       have hnv:=hn.v
       have d0:wr.cell? ⟨vb,0,none⟩=some (.int .u32 a):=(hnv.cell 0).trans rfl
       have d1:wr.cell? ⟨vb,1,none⟩=some (.int .u32 b):=(hnv.cell 1).trans rfl
       have d2:wr.cell? ⟨vb,2,none⟩=some (.int .u32 c):=(hnv.cell 2).trans rfl
       have d3:wr.cell? ⟨vb,4,none⟩=some (.int .u32 e):=(hnv.cell 4).trans rfl
       have d4:wr.cell? ⟨vb,5,none⟩=some (.int .u32 f):=(hnv.cell 5).trans rfl
       have d5:wr.cell? ⟨vb,6,none⟩=some (.int .u32 g):=(hnv.cell 6).trans rfl
       have d6:wr.cell? ⟨vb,7,none⟩=some (.int .u32 y):=(hnv.cell 7).trans rfl
       have e0:wr.cell? ⟨w.heap.size+1,0,none⟩=some (.int .i64 32):=(hnk.cell 0).trans rfl
       have e1:wr.cell? ⟨w.heap.size+1,7,none⟩=some (.int .i64 6):=(hnk.cell 7).trans rfl
       have e2:wr.cell? ⟨w.heap.size+1,8,none⟩=some (.int .i64 11):=(hnk.cell 8).trans rfl
       have e3:wr.cell? ⟨w.heap.size+1,9,none⟩=some (.int .i64 25):=(hnk.cell 9).trans rfl
       have e4:wr.cell? ⟨w.heap.size+1,10,none⟩=some (.int .i64 2):=(hnk.cell 10).trans rfl
       have e5:wr.cell? ⟨w.heap.size+1,11,none⟩=some (.int .i64 13):=(hnk.cell 11).trans rfl
       have e6:wr.cell? ⟨w.heap.size+1,12,none⟩=some (.int .i64 22):=(hnk.cell 12).trans rfl
       have e7:=HKc.out hlt
       have e8:=HWc.out hlt
       clear HKc HWc
       have HM1:Hid (∀ u,Calls Tryz.prog 195 #[.int .u32 e,.agg #[.int .i64 6,.int .i64 11,.int .i64 25],.int .i64 32,.bool false] u fun e' w'=>e'=.returned (.int .u32 (mixP e 6 11 25 false))∧Fr NoB u w'):=Lib.hid (fun u=>mixed_any _ 6 11 25 false u (by omega) (by omega) (by omega))
       have HM2:Hid (∀ u,Calls Tryz.prog 195 #[.int .u32 a,.agg #[.int .i64 2,.int .i64 13,.int .i64 22],.int .i64 32,.bool false] u fun e' w'=>e'=.returned (.int .u32 (mixP a 2 13 22 false))∧Fr NoB u w'):=Lib.hid (fun u=>mixed_any _ 2 13 22 false u (by omega) (by omega) (by omega))
       have HT:Hid (tP e f g y (keysP.getD m 0) (L.getD m 0)=IntKind.u32.wrap (IntKind.u32.wrap (IntKind.u32.wrap (IntKind.u32.wrap (y+mixP e 6 11 25 false)+bits .xor .u32 (bits .and .u32 e f) (bits .and .u32 (bits .xor .u32 IntKind.u32.max e) g))+(keysP.getD m 0))+(L.getD m 0))):=Lib.hid rfl
       have HU:Hid (uP a b c=IntKind.u32.wrap (mixP a 2 13 22 false+bits .xor .u32 (bits .xor .u32 (bits .and .u32 a b) (bits .and .u32 a c)) (bits .and .u32 b c))):=Lib.hid rfl
       generalize keysP.getD m 0=kx at *
       generalize L.getD m 0=lx at *
       generalize mixP e 6 11 25 false=me at *
       generalize mixP a 2 13 22 false=ma at *
       have HS:Hid (∀ u,Fr NoB wr u→(fun w'=>w'.cell? ⟨vb,7,none⟩=some (.int .u32 y)∧w'.cell? ⟨vb,4,none⟩=some (.int .u32 e)∧w'.cell? ⟨vb,5,none⟩=some (.int .u32 f)∧w'.cell? ⟨vb,6,none⟩=some (.int .u32 g)∧w'.cell? ⟨kb,m,none⟩=some (.int .u32 kx)∧w'.cell? ⟨w.heap.size+1+1+1,m,none⟩=some (.int .u32 lx)∧w'.cell? ⟨w.heap.size+1,0,none⟩=some (.int .i64 32)∧w'.cell? ⟨w.heap.size+1,7,none⟩=some (.int .i64 6)∧w'.cell? ⟨w.heap.size+1,8,none⟩=some (.int .i64 11)∧w'.cell? ⟨w.heap.size+1,9,none⟩=some (.int .i64 25)) u):=Lib.hid (fun u fu=>⟨fu.cellOf d6,fu.cellOf d3,fu.cellOf d4,fu.cellOf d5,fu.cellOf e7,fu.cellOf e8,fu.cellOf e0,fu.cellOf e1,fu.cellOf e2,fu.cellOf e3⟩)
       go_upto_region 19 with fail
       go_region_held3 (fun w'=>w'.cell? ⟨vb,7,none⟩=some (.int .u32 y)∧w'.cell? ⟨vb,4,none⟩=some (.int .u32 e)∧w'.cell? ⟨vb,5,none⟩=some (.int .u32 f)∧w'.cell? ⟨vb,6,none⟩=some (.int .u32 g)∧w'.cell? ⟨kb,m,none⟩=some (.int .u32 kx)∧w'.cell? ⟨w.heap.size+1+1+1,m,none⟩=some (.int .u32 lx)∧w'.cell? ⟨w.heap.size+1,0,none⟩=some (.int .i64 32)∧w'.cell? ⟨w.heap.size+1,7,none⟩=some (.int .i64 6)∧w'.cell? ⟨w.heap.size+1,8,none⟩=some (.int .i64 11)∧w'.cell? ⟨w.heap.size+1,9,none⟩=some (.int .i64 25)) (first|go_keep|(exact HS.out _ f1)) (first|(go_at_call 195;(with_reducible refine (HM1.out _).mono ?_);rintro e' v1 ⟨rfl,f1'⟩;have f1:=(Fr.refl NoB wr).drew.trans f1'))
       have HS2:Hid (∀ u,Fr NoB v1 u→(fun w'=>w'.cell? ⟨vb,0,none⟩=some (.int .u32 a)∧w'.cell? ⟨vb,1,none⟩=some (.int .u32 b)∧w'.cell? ⟨vb,2,none⟩=some (.int .u32 c)∧w'.cell? ⟨w.heap.size+1,0,none⟩=some (.int .i64 32)∧w'.cell? ⟨w.heap.size+1,10,none⟩=some (.int .i64 2)∧w'.cell? ⟨w.heap.size+1,11,none⟩=some (.int .i64 13)∧w'.cell? ⟨w.heap.size+1,12,none⟩=some (.int .i64 22)) u):=Lib.hid (fun u fu=>⟨fu.cellOf (f1.cellOf d0),fu.cellOf (f1.cellOf d1),fu.cellOf (f1.cellOf d2),fu.cellOf (f1.cellOf e0),fu.cellOf (f1.cellOf e4),fu.cellOf (f1.cellOf e5),fu.cellOf (f1.cellOf e6)⟩)
       have HN1:=Lib.hid (hn.noB f1)
       clear HS d0 d1 d2 d3 d4 d5 d6 e0 e1 e2 e3 e4 e5 e6 e7 e8
       obtain ⟨b0,b1,b2,b3,b4,b5,b6⟩:=HS2.out v1 (Fr.refl _ _)
       go_upto_region 20 with fail
       go_region_held3 (fun w'=>w'.cell? ⟨vb,0,none⟩=some (.int .u32 a)∧w'.cell? ⟨vb,1,none⟩=some (.int .u32 b)∧w'.cell? ⟨vb,2,none⟩=some (.int .u32 c)∧w'.cell? ⟨w.heap.size+1,0,none⟩=some (.int .i64 32)∧w'.cell? ⟨w.heap.size+1,10,none⟩=some (.int .i64 2)∧w'.cell? ⟨w.heap.size+1,11,none⟩=some (.int .i64 13)∧w'.cell? ⟨w.heap.size+1,12,none⟩=some (.int .i64 22)) (first|go_keep|(exact HS2.out _ f2)) (first|(go_at_call 195;(with_reducible refine (HM2.out _).mono ?_);rintro e' v2 ⟨rfl,f2'⟩;have f2:=(Fr.refl NoB v1).drew.trans f2'))
       go_upto_region 21 with fail
       have hn2:=(HN1.out.noB f2)
       clear HS2 b0 b1 b2 b3 b4 b5 b6
       go_region_law (refine step_copy_blk rfl (.tmp 162) (.tmp 163) 117 117 rfl 155 Tryz.underlying117 size_u32 vb 1 7 7 ⟨vb,0,none⟩ 7 8 rfl rfl (u32C [a,b,c,d,e,f,g,y]) 224 hn2.v ([a,b,c,d,e,f,g].map (Value.int .u32)) rfl (seven_src hn2.v) (Nat.le_refl 8) (by simp [Value.oneCell']) (u32C [a,a,b,c,d,e,f,g]) rfl ?_;intro v3 hv3 ho3)
       have hn3:=(hn2.noB ((Fr.refl NoB v2).drew)).only ho3 hv3
       have HN3:=Lib.hid hn3
       have x0:v3.cell? ⟨vb,4,none⟩=some (.int .u32 d):=(hv3.cell 4).trans rfl
       have x1:v3.frozen? ⟨vb,4,none⟩=false:=hv3.frozen 4
       have x2:v3.frozen? ⟨vb,0,none⟩=false:=hv3.frozen 0
       have x3:v3.cell? ⟨vb,0,none⟩=some (.int .u32 a):=(hv3.cell 0).trans rfl
       rw [← HT.out,← HU.out]
       have HR2:Hid (roundP kx lx [a,b,c,d,e,f,g,y]=[IntKind.u32.wrap (tP e f g y kx lx+uP a b c),a,b,c,IntKind.u32.wrap (d+tP e f g y kx lx),e,f,g]):=Lib.hid rfl
       generalize tP e f g y kx lx=tt at *
       generalize uP a b c=uu at *
       clear hn3 hv3 ho3 hn2 f2 f2' f1 f1' HM1 HM2 HT HU hn hnv hnk hnw hkk
       go_wp2_with fail
       go_roundw
       case rel=>exact ⟨m+1,by omega,by simp,by rw [← HV.out,HR2.out];exact (HN3.out.set 4 _).set 0 _⟩
       case measure=>simp [intOf];omega
      ·have hm64:m=64:=by omega
       have k65:¬ (m:Int)<64:=by omega
       have HF:Hid (nextP st B=addM st [a,b,c,d,e,f,g,y] 8):=Lib.hid (by rw [HR.out,← HVe.out,hm64])
       clear HV HVe HKc HWc hnk hnw hkk hm64 hlt hm HR
       generalize [a,b,c,d,e,f,g,y]=V at *
       go_wp2_with fail
       go_loopw [175] (fun v wr=>∃ j:Nat,j≤8∧v=.int .i64 j∧NV w st L (addM st V j) vb wr) (fun v _=>8 - (intOf v).toNat)
       case atStart=>exact ⟨0,by omega,rfl,hn⟩
       case round=>
        clear hn
        obtain ⟨j,hj,rfl,hn⟩:=hrel
        have hal:(addM st V j).length=8:=by rw [add_len,hVl]
        by_cases hlt:j<8
        ·have j1:(j:Int)<8:=by omega
         have j0:(0:Int)≤j:=by omega
         have HA:=Lib.hid (show (addM st V j).set j (IntKind.u32.wrap ((addM st V j).getD j 0+st.getD j 0))=addM st V (j+1) from rfl)
         have HN:=Lib.hid hn
         have y0:wr.cell? ⟨vb,j,none⟩=some (.int .u32 ((addM st V j).getD j 0)):=by
          rw [hn.v.cell,u32C_get (by omega),List.getD_eq_getElem?_getD,List.getElem?_eq_getElem (by omega)];rfl
         have y1:wr.cell? ⟨w.heap.size,j,none⟩=some (.int .u32 (st.getD j 0)):=by
          rw [hn.x.s.cell,u32C_get (by omega),List.getD_eq_getElem?_getD,List.getElem?_eq_getElem (by omega)];rfl
         have y2:wr.frozen? ⟨vb,j,none⟩=false:=hn.v.frozen j
         generalize addM st V j=A at *
         generalize A.getD j 0=xa at *
         generalize st.getD j 0=xs at *
         clear hn
         go_upto_region 28 with fail
         go_region
         go_wp2_with fail
         go_roundw
         case rel=>exact ⟨j+1,by omega,by simp,by rw [← HA.out];exact (HN.out.noB ((Fr.refl NoB wr).drew)).set j _⟩
         case measure=>simp [intOf];omega
        ·have hj8:j=8:=by omega
         have j1:¬ (j:Int)<8:=by omega
         rw [hj8,← HF.out] at hn
         have hnl:(nextP st B).length=8:=by rw [next_len,hst]
         clear hj8 hlt hj HF hal
         generalize hZe:nextP st B=Z at *
         have HZ:=Lib.hid hZe
         clear hZe
         have hnv:=hn.v
         have hnr:=hn.x.r
         have hgR:=hnr.setRow (u32C Z)
         have hfr:=hn.x.fr
         go_wp2_with (first|(refine wpList_load_row rfl 224 _ rfl vb rfl 224 _ _ _ hnv Tryz.underlying224 rfl (by rw [size_a8,u32C_size,hnl]) ?_)|(refine wpList_store_row rfl 224 _ _ rfl (w.heap.size+2) (u32C Z) rfl rfl 224 _ hnr (by rw [size_a8,u32C_size,hnl]) (by rw [u32C_size,hnl];rfl) (u32C_one Z) ?_))
         exact bodyPost_ret (v:=.agg (u32C Z)) (a8_back rfl _ _ (w.heap.size+2) Z hnl rfl hgR) rfl ⟨by rw [HZ.out],hfr.setRow _ _ (Or.inl (by omega))⟩
end Go.Proofs.YtbifjamddbpcjaaGreatDoor
