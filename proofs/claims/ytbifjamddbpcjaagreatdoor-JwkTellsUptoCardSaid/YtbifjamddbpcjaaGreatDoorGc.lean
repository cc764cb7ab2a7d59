/- SHA-256, the program's: next. -/
import Derived.Test.YtbifjamddbpcjaaGreatDoorGa
namespace Go.Proofs.YtbifjamddbpcjaaGreatDoor
set_option maxRecDepth 100000
set_option maxHeartbeats 25600000
open Go.RowKit
def jC (B:Bs) (i:Nat):Nat->Int
 | 0=>0
 | m+1=>bits .or .u32 (jC B i m*256 % 4294967296) ((B.getD (4*i+m) 0).toNat:Int)
def bS (B:Bs) (i:Nat):List Int:=(List.range i).map (fun k=>jC B k 4)++List.replicate (64 - i) 0
theorem mg {B:Bs} {i:Nat} (h:i<=64):(bS B i).length=64:=by simp [bS];omega
theorem I6 {B:Bs} {i:Nat} (hl:i<(bS B i).length):(bS B i)[i]=0:=by
 simp [bS]
theorem BM {B:Bs} {i:Nat} (h:i<64):(bS B i).set i 0=bS B i:=by
 have hl:=mg (B:=B) (i:=i) (by omega);have h2:i<(bS B i).length:=by omega
 have h3:=List.set_getElem_self h2;rwa [I6 h2] at h3
theorem BN {B:Bs} {i:Nat} (h:i<64):(bS B i).set i (jC B i 4)=bS B (i+1):=by
 unfold bS;rw [List.set_append_right _ _ (by simp)];rw [List.range_succ,List.map_append,List.append_assoc]
 congr 1
 obtain ⟨k,hk⟩:∃ k,64 - i=k+1:=⟨64 - i - 1,by omega⟩;rw [hk,show 64 - (i+1)=k by omega];simp [List.replicate_succ]
def rF (L:List Int) (i:Nat):Int:=IntKind.u32.wrap (IntKind.u32.wrap (IntKind.u32.wrap (L.getD (i - 16) 0+jM (L.getD (i - 15) 0) 7 18 3 true)+L.getD (i - 7) 0)+jM (L.getD (i - 2) 0) 17 19 10 true)
def di (L:List Int):Nat->List Int
 | 0=>L
 | m+1=>if m<16 then L else (di L m).set m (rF (di L m) m)
theorem pv (L:List Int):∀ m,(di L m).length=L.length
 | 0=>rfl
 | m+1=>by rw [di];split<;>simp [pv L m]
theorem Fe (L:List Int):∀ m,m<=16->di L m=L
 | 0,_=>rfl
 | m+1,h=>by rw [di,if_pos (by omega)]
theorem BO (L:List Int) {m:Nat} (h:16<=m):(di L m).set m (rF (di L m) m)=di L (m+1):=by rw [di,if_neg (by omega)]
def tP (e f g h k x:Int):Int:=IntKind.u32.wrap (IntKind.u32.wrap (IntKind.u32.wrap (IntKind.u32.wrap (h+jM e 6 11 25 false)+bits .xor .u32 (bits .and .u32 e f) (bits .and .u32 (bits .xor .u32 IntKind.u32.max e) g))+k)+x)
def uP (a b c:Int):Int:=IntKind.u32.wrap (jM a 2 13 22 false+bits .xor .u32 (bits .xor .u32 (bits .and .u32 a b) (bits .and .u32 a c)) (bits .and .u32 b c))
def lG (k x:Int):List Int->List Int
 | [a,b,c,d,e,f,g,h]=>[IntKind.u32.wrap (tP e f g h k x+uP a b c),a,b,c,IntKind.u32.wrap (d+tP e f g h k x),e,f,g]
 | l=>l
theorem Ff (k x:Int) (l:List Int):(lG k x l).length=l.length:=by unfold lG;split<;>rfl
def eZ (L st:List Int):Nat->List Int
 | 0=>st
 | m+1=>lG (jf.getD m 0) (L.getD m 0) (eZ L st m)
theorem nk (L st:List Int):∀ m,(eZ L st m).length=st.length
 | 0=>rfl
 | m+1=>by rw [eZ,Ff,nk L st m]
def mM (st V:List Int):Nat->List Int
 | 0=>V
 | m+1=>(mM st V m).set m (IntKind.u32.wrap ((mM st V m).getD m 0+st.getD m 0))
theorem xf (st V:List Int):∀ m,(mM st V m).length=V.length
 | 0=>rfl
 | m+1=>by rw [mM,List.length_set,xf st V m]
def jg (st:List Int) (B:Bs):List Int:=mM st (eZ (di (bS B 16) 64) st 64) 8
theorem rG (st:List Int) (B:Bs):(jg st B).length=st.length:=by rw [jg,xf,nk]
theorem yQ (l:List Int):(u32C l).all (·.oneCell')=true:=by simp [Value.oneCell']
theorem nZ {l:List Int} (h:l.length=8):∃ a b c d e f g k,l=[a,b,c,d,e,f,g,k]:=by
 match l,h with
 | [a,b,c,d,e,f,g,k],_=>exact ⟨a,b,c,d,e,f,g,k,rfl⟩
abbrev z8:Array Value := #[.int .u32 0,.int .u32 0,.int .u32 0,.int .u32 0,.int .u32 0,.int .u32 0,.int .u32 0,.int .u32 0]
structure NX (w:World) (st L:List Int) (u:World):Prop where
 s:Blk u w.heap.size 224 (u32C st)
 k:Blk u (w.heap.size+1) 222 kindC
 r:Blk u (w.heap.size+2) 224 z8
 wd:Blk u (w.heap.size+3) 155 (u32C L)
 fr:Fr NoB w u
theorem NX.start (w:World) (st L:List Int):NX w st L ((((w.alloc (.cells (u32C st) 224)).alloc (.cells kindC 222)).alloc (.cells z8 224)).alloc (.cells (u32C L) 155)):=by
 refine ⟨(((Blk.new w _ _).alloc _).alloc _).alloc _,?_,?_,?_,((((Fr.refl _ _).alloc _).alloc _).alloc _).alloc _⟩
 ·have:=((Blk.new (w.alloc (.cells (u32C st) 224)) 222 kindC).alloc (.cells z8 224)).alloc (.cells (u32C L) 155);simpa using this
 ·have:=(Blk.new ((w.alloc (.cells (u32C st) 224)).alloc (.cells kindC 222)) 224 z8).alloc (.cells (u32C L) 155);simpa using this
 ·have:=Blk.new (((w.alloc (.cells (u32C st) 224)).alloc (.cells kindC 222)).alloc (.cells z8 224)) 155 (u32C L);simpa using this
theorem NX.word {w u:World} {st L:List Int} (h:NX w st L u) (i:Nat) (x:Int):NX w st (L.set i x) (u.setCell ⟨w.heap.size+3,i,none⟩ (.int .u32 x)):=by
 have f:Fr (Only (w.heap.size+3)) u (u.setCell ⟨w.heap.size+3,i,none⟩ (.int .u32 x)):=(Fr.refl _ _).only _;refine ⟨f.blk h.s (fun (e:w.heap.size=w.heap.size+3)=>by omega),f.blk h.k (fun (e:w.heap.size+1=w.heap.size+3)=>by omega),f.blk h.r (fun (e:w.heap.size+2=w.heap.size+3)=>by omega),?_,h.fr.setCell_new (p:=⟨w.heap.size+3,i,none⟩) (by simp) _⟩;have:=h.wd.aS i (.int .u32 x);rwa [yR] at this
theorem NX.cT {w u u':World} {st L:List Int} (h:NX w st L u) (f:Fr NoB u u'):NX w st L u':=
 ⟨f.blk h.s (fun e=>e),f.blk h.k (fun e=>e),f.blk h.r (fun e=>e),f.blk h.wd (fun e=>e),h.fr.trans f⟩
theorem Fr.cellOf {w u:World} (f:Fr NoB w u) {p:Addr} {v:Value} (h:w.cell? p=some v):u.cell? p=some v:=by
 refine (f.cell (p:=p) ?_ (fun e=>e)).trans h;rcases Nat.lt_or_ge p.block w.heap.size with hlt|Bn
 ·exact hlt
 ·unfold World.cell? at h;rw [Array.getElem?_eq_none Bn] at h;simp at h
theorem M7 {fn:Func} (h:fn.results = #[.cell 8 224]) (tmps:Array Value) (w:World) (g:Nat) (Z:List Int) (hz:Z.length=8) (hp:tmps.getD 8 undef=.pointer (some ⟨g,0,none⟩)) (hb:Blk w g 224 (u32C Z)) :
  (results fn tmps).run Tryz.prog w=.ok (.agg (u32C Z)) w:=results_cell_row h tmps w g _ _ _ _ hp hb Tryz.underlying224 rfl (by rw [mh,fL,hz])
theorem I7:(Tryz.prog.info? 155).map (·.size)=some 1:=by kernel_rfl
theorem Fg {w:World} {vb:Nat} {a b c d e f g y:Int} (h:Blk w vb 224 (u32C [a,b,c,d,e,f,g,y])):∀ j v,([a,b,c,d,e,f,g].map (Value.int .u32))[j]?=some v->w.cell? ((⟨vb,0,none⟩:Addr).add j)=some v:=by
 intro j v hv;rw [bT,Nat.zero_add,h.cell]
 match j with
 | 0|1|2|3|4|5|6=>exact hv
 | j+7=>simp at hv
structure NV (w:World) (st L V:List Int) (vb:Nat) (u:World):Prop where
 x:NX w st L u
 v:Blk u vb 224 (u32C V)
 hi:w.heap.size+4<=vb
theorem NV.start {w u:World} {st L:List Int} (h:NX w st L u):NV w st L st u.heap.size ((u.alloc (.cells z8 224)).setRow u.heap.size (u32C st)):=by
 have hs:=h.wd.lt;exact ⟨h.cT (((Fr.refl _ _).alloc _).setRow _ _ (Or.inl (Nat.le_refl _))),(Blk.new u 224 z8).setRow _,by omega⟩
theorem NV.cT {w u u':World} {st L V:List Int} {vb:Nat} (h:NV w st L V vb u) (f:Fr NoB u u'):NV w st L V vb u':=
 ⟨h.x.cT f,f.blk h.v (fun e=>e),h.hi⟩
theorem NV.only {w u u':World} {st L V V':List Int} {vb:Nat} (h:NV w st L V vb u) (f:Fr (Only vb) u u') (hv:Blk u' vb 224 (u32C V')):NV w st L V' vb u':=by
 have hi:=h.hi;have h2:=h.x.fr;have e:∀ k,k<w.heap.size+4->¬ Only vb k:=fun k hk (e:k=vb)=>by omega
 exact ⟨⟨f.blk h.x.s (e _ (by omega)),f.blk h.x.k (e _ (by omega)),f.blk h.x.r (e _ (by omega)),f.blk h.x.wd (e _ (by omega)),⟨by rw [f.os,h2.os],by rw [f.tape,h2.tape],by rw [f.output,h2.output],Nat.le_trans h2.size f.size,fun k hk hn=>(f.block k (by have:=h2.size;omega) (e _ (by omega))).trans (h2.block k hk hn)⟩⟩,hv,hi⟩
theorem NV.set {w u:World} {st L V:List Int} {vb:Nat} (h:NV w st L V vb u) (i:Nat) (x:Int):NV w st L (V.set i x) vb (u.setCell ⟨vb,i,none⟩ (.int .u32 x)):=by
 have:=h.v.aS i (.int .u32 x);rw [yR] at this;exact h.only ((Fr.refl _ _).only _) this
theorem NV.row {w u:World} {st L V:List Int} {vb:Nat} (h:NV w st L V vb u) (V':List Int):NV w st L V' vb (u.setRow vb (u32C V')):=
 h.only (Fr.eE _ _ _) (h.v.setRow _)
theorem I8 (st:List Int) (B:Bs) (hb ob bc kb kc:Nat) (w:World) (cj:st.length=8) (hbc:64<=bc) (ju:hb<w.heap.size) (hBc:∀ j,j<64->w.cell? ⟨hb,ob+j,none⟩=some (.int .u8 ((B.getD j 0).toNat:Int)))
  (hK:Blk w kb 155 (u32C jf)) :
  Calls Tryz.prog 155 #[.agg (u32C st),.slice (some ⟨hb,ob,none⟩) 64 bc,.slice (some ⟨kb,0,none⟩) 64 kc,.agg kindC] w fun e w'=>e=.returned (.agg (u32C (jg st B)))/\Fr NoB w w':=by
 have mV:∀ u:World,(Instr.makeSlice 117 (.int .i64 64) (.int .i64 64)).run Tryz.prog u=.ok (.slice (some ⟨u.heap.size,0,none⟩) 64 64) (u.alloc (.cells (u32C (bS B 0)) 155)):=fun _=>by kernel_rfl
 go_enter Tryz.func155,Tryz.ntmps155;go_upto_block 0 with fail;have dx:=NX.start w st (bS B 0);have e2:w.heap.size+1+1=w.heap.size+2:=rfl;have e3:w.heap.size+1+1+1=w.heap.size+3:=rfl;generalize ((((w.alloc (.cells (u32C st) 224)).alloc (.cells kindC 222)).alloc (.cells z8 224)).alloc (.cells (u32C (bS B 0)) 155))=W at *;clear mV;go_wp2_with fail;go_loopw [22] (fun v wr=>∃ i:Nat,i<=16/\v=.int .i64 i/\NX w st (bS B i) wr) (fun v _=>16 - (intOf v).toNat)
 case atStart=>exact ⟨0,by omega,rfl,dx⟩
 case round=>
  obtain ⟨i,hi,rfl,hn⟩:=hrel;by_cases hlt:i<16
  ·have k1:(i:Int)<16:=by omega
   have k0:(0:Int)<=i:=by omega
   have cb:wr.cell? ⟨w.heap.size+1,0,none⟩=some (.int .i64 32):=(hn.k.cell 0).trans rfl;have q1:(4:Int)*((i:Int)+1)<=bc:=by omega
   have q2:¬ bc=4*i:=by omega
   have q3:(0:Int)<=4*((i:Int)+1):=by omega
   have q4:(0:Int)<=4*(i:Int):=by omega
   have q5:(4:Int)*(i:Int)<=4*((i:Int)+1):=by omega
   have q6:((4:Int)*((i:Int)+1)).toNat=4*i+4:=by omega
   have q7:((4:Int)*(i:Int)).toNat=4*i:=by omega
   have q8:4*i+4 - 4*i=4:=by omega
   go_wp2_with fail;go_loopw [39] (fun v wr=>∃ m:Nat,m<=4/\v=.int .i64 m/\NX w st ((bS B i).set i (jC B i m)) wr) (fun v _=>4 - (intOf v).toNat)
   case atStart=>exact ⟨0,by omega,rfl,by rw [show jC B i 0=0 from rfl,BM (by omega)];exact hn⟩
   case round=>
    clear cb hn;obtain ⟨m,hm,rfl,hn⟩:=hrel;have Bo:=mg (B:=B) (i:=i) (by omega);by_cases Yu:m<4
    ·(have p1:(m:Int)<4:=by omega);(have p0:(0:Int)<=m:=by omega);have cB:wr.cell? ⟨hb,ob+4*i+m,none⟩=some (.int .u8 ((B.getD (4*i+m) 0).toNat:Int)):=by
      rw [Nat.add_assoc];exact (hn.fr.cell (p:=⟨hb,ob+(4*i+m),none⟩) ju (fun e=>e)).trans (hBc _ (by omega))
     have cW:wr.cell? ⟨w.heap.size+3,i,none⟩=some (.int .u32 (jC B i m)):=by
      rw [hn.wd.cell,jX (by rw [List.length_set];omega)];simp
     have zW:wr.frozen? ⟨w.heap.size+3,i,none⟩=false:=hn.wd.frozen i;have cW':wr.cell? ⟨w.heap.size+1+1+1,i,none⟩=some (.int .u32 (jC B i m)):=cW;have zW':wr.frozen? ⟨w.heap.size+1+1+1,i,none⟩=false:=zW;have hb8:=(B.getD (4*i+m) 0).toNat_lt;(have k64:(i:Int)<64:=by omega);have HX:Hid (bits .or .u32 (jC B i m*256 % 4294967296) ((B.getD (4*i+m) 0).toNat:Int)=jC B i (m+1)):=hd' rfl;have M8:=hd' (hn.word i (jC B i (m+1)));generalize mN:jC B i (m+1)=x' at *;have Mu:=hd' mN;clear mN;generalize jC B i m=x at *;generalize (B.getD (4*i+m) 0).toNat=by8 at *;clear hn cW zW;go_wp2_with fail;rw [HX.out];go_roundw
     case rel=>exact ⟨m+1,by omega,by simp,by have:=M8.out;rw [List.set_set] at this;rw [Mu.out];exact this⟩
     case measure=>simp [intOf];omega
    ·obtain rfl:m=4:=by omega
     rw [BN (by omega)] at hn;go_wp2_with fail;go_roundw
     case rel=>exact ⟨i+1,by omega,by simp,hn⟩
     case measure=>simp [intOf];omega
  ·have M9:i=16:=by omega
   rw [M9] at hn;have Fh:¬ (i:Int)<16:=by omega
   clear M9 hlt hi;go_wp2_with fail;go_loopw [13] (fun v wr=>∃ i:Nat,16<=i/\i<=64/\v=.int .i64 i/\NX w st (di (bS B 16) i) wr) (fun v _=>64 - (intOf v).toNat)
   case atStart=>exact ⟨16,Nat.le_refl _,by omega,rfl,by rw [Fe _ _ (Nat.le_refl _)];exact hn⟩
   case round=>
    clear hn;obtain ⟨i,US,hi,rfl,hn⟩:=hrel;(have Fi:(di (bS B 16) i).length=64:=by rw [pv,mg (by omega)]);by_cases hlt:i<64
    ·(have k1:(i:Int)<64:=by omega);(have k0:(0:Int)<=i:=by omega);have HN:=hd' (BO (bS B 16) US);have HX:Hid (∀ L:List Int,L.length=64->NX w st L wr->∀ j,j<64->wr.cell? ⟨w.heap.size+1+1+1,j,none⟩=some (.int .u32 (L.getD j 0))):=hd' (fun L hL hn j hj=>by
      show wr.cell? ⟨w.heap.size+3,j,none⟩=_;rw [hn.wd.cell,jX (by omega),List.getD_eq_getElem?_getD,List.getElem?_eq_getElem (by omega)];rfl)
     generalize di (bS B 16) i=L at *;have hSx:rF L i=IntKind.u32.wrap (IntKind.u32.wrap (IntKind.u32.wrap (L.getD (i - 16) 0+jM (L.getD (i - 15) 0) 7 18 3 true)+L.getD (i - 7) 0)+jM (L.getD (i - 2) 0) 17 19 10 true):=rfl;have d0:=HX.out L Fi hn (i - 16) (by omega);have d1:=HX.out L Fi hn (i - 15) (by omega);have d2:=HX.out L Fi hn (i - 7) (by omega);have d3:=HX.out L Fi hn (i - 2) (by omega);have yS:=hn.k;have e0:wr.cell? ⟨w.heap.size+1,0,none⟩=some (.int .i64 32):=(yS.cell 0).trans rfl;have e1:wr.cell? ⟨w.heap.size+1,1,none⟩=some (.int .i64 7):=(yS.cell 1).trans rfl;have e2:wr.cell? ⟨w.heap.size+1,2,none⟩=some (.int .i64 18):=(yS.cell 2).trans rfl;have e3:wr.cell? ⟨w.heap.size+1,3,none⟩=some (.int .i64 3):=(yS.cell 3).trans rfl;have e4:wr.cell? ⟨w.heap.size+1,4,none⟩=some (.int .i64 17):=(yS.cell 4).trans rfl;have e5:wr.cell? ⟨w.heap.size+1,5,none⟩=some (.int .i64 19):=(yS.cell 5).trans rfl;have e6:wr.cell? ⟨w.heap.size+1,6,none⟩=some (.int .i64 10):=(yS.cell 6).trans rfl;have z0:wr.frozen? ⟨w.heap.size+1+1+1,i,none⟩=false:=hn.wd.frozen i;have QM:Hid (∀ u,Calls Tryz.prog 195 #[.int .u32 (L.getD (i - 15) 0),.agg #[.int .i64 7,.int .i64 18,.int .i64 3],.int .i64 32,.bool true] u fun e w'=>e=.returned (.int .u32 (jM (L.getD (i - 15) 0) 7 18 3 true))/\Fr NoB u w'):=hd' (fun u=>mj _ 7 18 3 true u (by omega) (by omega) (by omega));have Mv:Hid (∀ u,Calls Tryz.prog 195 #[.int .u32 (L.getD (i - 2) 0),.agg #[.int .i64 17,.int .i64 19,.int .i64 10],.int .i64 32,.bool true] u fun e w'=>e=.returned (.int .u32 (jM (L.getD (i - 2) 0) 17 19 10 true))/\Fr NoB u w'):=hd' (fun u=>mj _ 17 19 10 true u (by omega) (by omega) (by omega));generalize L.getD (i - 16) 0=A0 at *;generalize L.getD (i - 15) 0=A1 at *;generalize L.getD (i - 7) 0=A2 at *;generalize L.getD (i - 2) 0=A3 at *;generalize jM A1 7 18 3 true=M1 at *;generalize jM A3 17 19 10 true=M2 at *;have HSx:=hd' hSx;clear hSx;have hNs:wr.heap.size > w.heap.size+3:=hn.wd.lt;have HNi:Hid (∀ u,Fr NoB wr u->(∃ x,u.cell? ⟨w.heap.size+1+1+1,i,none⟩=some x)/\u.frozen? ⟨w.heap.size+1+1+1,i,none⟩=false):=hd' (fun u f=>⟨⟨_,(f.cell (p:=⟨w.heap.size+1+1+1,i,none⟩) (by simp;omega) (fun e=>e)).trans (HX.out L Fi hn i hlt)⟩,(f.frozen (p:=⟨w.heap.size+1+1+1,i,none⟩) (by simp;omega) (fun e=>e)).trans z0⟩);have HS:Hid (∀ u,Fr NoB wr u->(fun w'=>w'.cell? ⟨w.heap.size+1+1+1,i - 16,none⟩=some (.int .u32 A0)/\w'.cell? ⟨w.heap.size+1+1+1,i - 15,none⟩=some (.int .u32 A1)/\w'.cell? ⟨w.heap.size+1+1+1,i - 7,none⟩=some (.int .u32 A2)/\w'.cell? ⟨w.heap.size+1+1+1,i - 2,none⟩=some (.int .u32 A3)/\w'.cell? ⟨w.heap.size+1,0,none⟩=some (.int .i64 32)/\w'.cell? ⟨w.heap.size+1,1,none⟩=some (.int .i64 7)/\w'.cell? ⟨w.heap.size+1,2,none⟩=some (.int .i64 18)/\w'.cell? ⟨w.heap.size+1,3,none⟩=some (.int .i64 3)/\w'.cell? ⟨w.heap.size+1,4,none⟩=some (.int .i64 17)/\w'.cell? ⟨w.heap.size+1,5,none⟩=some (.int .i64 19)/\w'.cell? ⟨w.heap.size+1,6,none⟩=some (.int .i64 10)) u):=hd' (fun u f=>by
      have c:=fun (g o:Nat) (v:Value) (hg:g<wr.heap.size) (h:wr.cell? ⟨g,o,none⟩=some v)=>(f.cell (p:=⟨g,o,none⟩) hg (fun e=>e)).trans h;exact ⟨c _ _ _ (by omega) d0,c _ _ _ (by omega) d1,c _ _ _ (by omega) d2,c _ _ _ (by omega) d3,c _ _ _ (by omega) e0,c _ _ _ (by omega) e1,c _ _ _ (by omega) e2,c _ _ _ (by omega) e3,c _ _ _ (by omega) e4,c _ _ _ (by omega) e5,c _ _ _ (by omega) e6⟩)
     have kD:Hid (∀ u,Fr NoB wr u->∀ x,(fun w'=>w'.cell? ⟨w.heap.size+1+1+1,i - 16,none⟩=some (.int .u32 A0)/\w'.cell? ⟨w.heap.size+1+1+1,i - 15,none⟩=some (.int .u32 A1)/\w'.cell? ⟨w.heap.size+1+1+1,i - 7,none⟩=some (.int .u32 A2)/\w'.cell? ⟨w.heap.size+1+1+1,i - 2,none⟩=some (.int .u32 A3)/\w'.cell? ⟨w.heap.size+1,0,none⟩=some (.int .i64 32)/\w'.cell? ⟨w.heap.size+1,1,none⟩=some (.int .i64 7)/\w'.cell? ⟨w.heap.size+1,2,none⟩=some (.int .i64 18)/\w'.cell? ⟨w.heap.size+1,3,none⟩=some (.int .i64 3)/\w'.cell? ⟨w.heap.size+1,4,none⟩=some (.int .i64 17)/\w'.cell? ⟨w.heap.size+1,5,none⟩=some (.int .i64 19)/\w'.cell? ⟨w.heap.size+1,6,none⟩=some (.int .i64 10)) (u.setCell ⟨w.heap.size+1+1+1,i,none⟩ x)):=hd' (fun u f x=>by
      obtain ⟨a0,a1,a2,a3,a4,a5,a6,a7,a8,a9,ZN⟩:=HS.out u f;have c:∀ (g o:Nat) (v:Value),¬ (g=w.heap.size+1+1+1/\o=i)->u.cell? ⟨g,o,none⟩=some v->(u.setCell ⟨w.heap.size+1+1+1,i,none⟩ x).cell? ⟨g,o,none⟩=some v:=fun g o v hne h=>by
       rw [World.cell?_setCell_other (h:=fun e=>hne (by simp at e;exact ⟨e.1.symm,e.2.symm⟩))];exact h
      exact ⟨c _ _ _ (by omega) a0,c _ _ _ (by omega) a1,c _ _ _ (by omega) a2,c _ _ _ (by omega) a3,c _ _ _ (by omega) a4,c _ _ _ (by omega) a5,c _ _ _ (by omega) a6,c _ _ _ (by omega) a7,c _ _ _ (by omega) a8,c _ _ _ (by omega) a9,c _ _ _ (by omega) ZN⟩)
     (have s16:(i:Int) - 16=((i - 16:Nat):Int):=by omega);(have u16:((i - 16:Nat):Int)<64:=by omega);(have n16:(0:Int)<=((i - 16:Nat):Int):=by omega);have ZJ:IntKind.i64.wrap ((i - 16:Nat):Int)=((i - 16:Nat):Int):=IntWalk.i64_in _ (by omega);generalize i - 16=j0 at *;(have s15:(i:Int) - 15=((i - 15:Nat):Int):=by omega);(have u15:((i - 15:Nat):Int)<64:=by omega);(have n15:(0:Int)<=((i - 15:Nat):Int):=by omega);have ZK:IntKind.i64.wrap ((i - 15:Nat):Int)=((i - 15:Nat):Int):=IntWalk.i64_in _ (by omega);generalize i - 15=j1 at *;(have s7:(i:Int) - 7=((i - 7:Nat):Int):=by omega);(have u7:((i - 7:Nat):Int)<64:=by omega);(have n7:(0:Int)<=((i - 7:Nat):Int):=by omega);have w7:IntKind.i64.wrap ((i - 7:Nat):Int)=((i - 7:Nat):Int):=IntWalk.i64_in _ (by omega);generalize i - 7=j2 at *;(have s2:(i:Int) - 2=((i - 2:Nat):Int):=by omega);(have u2:((i - 2:Nat):Int)<64:=by omega);(have n2:(0:Int)<=((i - 2:Nat):Int):=by omega);have w2:IntKind.i64.wrap ((i - 2:Nat):Int)=((i - 2:Nat):Int):=IntWalk.i64_in _ (by omega);generalize i - 2=j3 at *;go_wp2_with fail;go_region_held3 (fun w'=>w'.cell? ⟨w.heap.size+1+1+1,j0,none⟩=some (.int .u32 A0)/\w'.cell? ⟨w.heap.size+1+1+1,j1,none⟩=some (.int .u32 A1)/\w'.cell? ⟨w.heap.size+1+1+1,j2,none⟩=some (.int .u32 A2)/\w'.cell? ⟨w.heap.size+1+1+1,j3,none⟩=some (.int .u32 A3)/\w'.cell? ⟨w.heap.size+1,0,none⟩=some (.int .i64 32)/\w'.cell? ⟨w.heap.size+1,1,none⟩=some (.int .i64 7)/\w'.cell? ⟨w.heap.size+1,2,none⟩=some (.int .i64 18)/\w'.cell? ⟨w.heap.size+1,3,none⟩=some (.int .i64 3)/\w'.cell? ⟨w.heap.size+1,4,none⟩=some (.int .i64 17)/\w'.cell? ⟨w.heap.size+1,5,none⟩=some (.int .i64 19)/\w'.cell? ⟨w.heap.size+1,6,none⟩=some (.int .i64 10)) (first|go_keep|(exact HS.out _ f2)|(exact kD.out _ f2 _)|(exact HS.out _ f1)) (first|(go_at_call 195;(with_reducible refine (QM.out _).mono ?_);rintro e v1 ⟨rfl,Yv⟩;have f1:=(Fr.refl NoB wr).drew.trans Yv)|(go_at_call 195;(with_reducible refine (Mv.out _).mono ?_);rintro e v2 ⟨rfl,Mw⟩;have f2:=f1.trans Mw;obtain ⟨⟨xS,cS⟩,zS⟩:=HNi.out _ f2));go_wp2_with fail;go_roundw
     case rel=>exact ⟨i+1,by omega,by omega,by simp,by rw [<- HN.out,HSx.out];exact (hn.cT f2).word i _⟩
     case measure=>simp [intOf];omega
    ·(have BP:i=64:=by omega);(have k64:¬ (i:Int)<64:=by omega);rw [BP] at hn;(have hLl:(di (bS B 16) 64).length=64:=by rw [pv,mg (by omega)]);have HR:=hd' (show jg st B=mM st (eZ (di (bS B 16) 64) st 64) 8 from rfl);clear Fi;generalize di (bS B 16) 64=L at *;have Ym:=hn.s;have hv0:=NV.start hn;clear BP hlt US hi;go_upto_block 6 with (first|(refine wpList_load_row rfl 224 _ rfl w.heap.size rfl 224 _ _ _ Ym Tryz.underlying224 rfl (by rw [mh,fL,cj]) ?_)|(refine wpList_store_row rfl 224 _ _ rfl wr.heap.size (u32C st) rfl rfl 224 _ (Blk.new wr 224 z8) (by rw [mh,fL,cj]) (by rw [fL,cj];rfl) (yQ st) ?_));generalize (wr.alloc (.cells z8 224)).setRow wr.heap.size (u32C st)=W5 at *;clear Ym hn;generalize wr.heap.size=vb at *;go_wp2_with fail;go_loopw [101] (fun v wr=>∃ m:Nat,m<=64/\v=.int .i64 m/\NV w st L (eZ L st m) vb wr) (fun v _=>64 - (intOf v).toNat)
     case atStart=>exact ⟨0,by omega,rfl,hv0⟩
     case round=>
      clear hv0;obtain ⟨m,hm,rfl,hn⟩:=hrel;(have UT:(eZ L st m).length=8:=by rw [nk,cj]);have HV:=hd' (show lG (jf.getD m 0) (L.getD m 0) (eZ L st m)=eZ L st (m+1) from rfl);have yS:=hn.x.k;have ZO:=hn.x.wd;have ua:=hn.x.fr.blk hK (fun e=>e);have ZP:Hid (m<64->wr.cell? ⟨kb,m,none⟩=some (.int .u32 (jf.getD m 0))):=hd' (fun h=>by
       rw [ua.cell,jX (show m<jf.length from h),List.getD_eq_getElem?_getD,List.getElem?_eq_getElem (show m<jf.length from h)];rfl)
      have ZQ:Hid (m<64->wr.cell? ⟨w.heap.size+1+1+1,m,none⟩=some (.int .u32 (L.getD m 0))):=hd' (fun h=>by
       show wr.cell? ⟨w.heap.size+3,m,none⟩=_;rw [ZO.cell,jX (by omega),List.getD_eq_getElem?_getD,List.getElem?_eq_getElem (by omega)];rfl)
      generalize hVe:eZ L st m=V at *;have HVe:=hd' hVe;clear hVe;obtain ⟨a,b,c,d,e,f,g,y,rfl⟩:=nZ UT;by_cases hlt:m<64
      ·(have k1:(m:Int)<64:=by omega);(have k0:(0:Int)<=m:=by omega);have Mx:=hn.v;have d0:wr.cell? ⟨vb,0,none⟩=some (.int .u32 a):=(Mx.cell 0).trans rfl;have d1:wr.cell? ⟨vb,1,none⟩=some (.int .u32 b):=(Mx.cell 1).trans rfl;have d2:wr.cell? ⟨vb,2,none⟩=some (.int .u32 c):=(Mx.cell 2).trans rfl;have d3:wr.cell? ⟨vb,4,none⟩=some (.int .u32 e):=(Mx.cell 4).trans rfl;have d4:wr.cell? ⟨vb,5,none⟩=some (.int .u32 f):=(Mx.cell 5).trans rfl;have d5:wr.cell? ⟨vb,6,none⟩=some (.int .u32 g):=(Mx.cell 6).trans rfl;have d6:wr.cell? ⟨vb,7,none⟩=some (.int .u32 y):=(Mx.cell 7).trans rfl;have e0:wr.cell? ⟨w.heap.size+1,0,none⟩=some (.int .i64 32):=(yS.cell 0).trans rfl;have e1:wr.cell? ⟨w.heap.size+1,7,none⟩=some (.int .i64 6):=(yS.cell 7).trans rfl;have e2:wr.cell? ⟨w.heap.size+1,8,none⟩=some (.int .i64 11):=(yS.cell 8).trans rfl;have e3:wr.cell? ⟨w.heap.size+1,9,none⟩=some (.int .i64 25):=(yS.cell 9).trans rfl;have e4:wr.cell? ⟨w.heap.size+1,10,none⟩=some (.int .i64 2):=(yS.cell 10).trans rfl;have e5:wr.cell? ⟨w.heap.size+1,11,none⟩=some (.int .i64 13):=(yS.cell 11).trans rfl;have e6:wr.cell? ⟨w.heap.size+1,12,none⟩=some (.int .i64 22):=(yS.cell 12).trans rfl;have e7:=ZP.out hlt;have e8:=ZQ.out hlt;clear ZP ZQ;have QM:Hid (∀ u,Calls Tryz.prog 195 #[.int .u32 e,.agg #[.int .i64 6,.int .i64 11,.int .i64 25],.int .i64 32,.bool false] u fun e' w'=>e'=.returned (.int .u32 (jM e 6 11 25 false))/\Fr NoB u w'):=hd' (fun u=>mj _ 6 11 25 false u (by omega) (by omega) (by omega));have Mv:Hid (∀ u,Calls Tryz.prog 195 #[.int .u32 a,.agg #[.int .i64 2,.int .i64 13,.int .i64 22],.int .i64 32,.bool false] u fun e' w'=>e'=.returned (.int .u32 (jM a 2 13 22 false))/\Fr NoB u w'):=hd' (fun u=>mj _ 2 13 22 false u (by omega) (by omega) (by omega));have HT:Hid (tP e f g y (jf.getD m 0) (L.getD m 0)=IntKind.u32.wrap (IntKind.u32.wrap (IntKind.u32.wrap (IntKind.u32.wrap (y+jM e 6 11 25 false)+bits .xor .u32 (bits .and .u32 e f) (bits .and .u32 (bits .xor .u32 IntKind.u32.max e) g))+(jf.getD m 0))+(L.getD m 0))):=hd' rfl;have HU:Hid (uP a b c=IntKind.u32.wrap (jM a 2 13 22 false+bits .xor .u32 (bits .xor .u32 (bits .and .u32 a b) (bits .and .u32 a c)) (bits .and .u32 b c))):=hd' rfl;generalize jf.getD m 0=kx at *;generalize L.getD m 0=lx at *;generalize jM e 6 11 25 false=me at *;generalize jM a 2 13 22 false=ma at *;have HS:Hid (∀ u,Fr NoB wr u->(fun w'=>w'.cell? ⟨vb,7,none⟩=some (.int .u32 y)/\w'.cell? ⟨vb,4,none⟩=some (.int .u32 e)/\w'.cell? ⟨vb,5,none⟩=some (.int .u32 f)/\w'.cell? ⟨vb,6,none⟩=some (.int .u32 g)/\w'.cell? ⟨kb,m,none⟩=some (.int .u32 kx)/\w'.cell? ⟨w.heap.size+1+1+1,m,none⟩=some (.int .u32 lx)/\w'.cell? ⟨w.heap.size+1,0,none⟩=some (.int .i64 32)/\w'.cell? ⟨w.heap.size+1,7,none⟩=some (.int .i64 6)/\w'.cell? ⟨w.heap.size+1,8,none⟩=some (.int .i64 11)/\w'.cell? ⟨w.heap.size+1,9,none⟩=some (.int .i64 25)) u):=hd' (fun u fu=>⟨fu.cellOf d6,fu.cellOf d3,fu.cellOf d4,fu.cellOf d5,fu.cellOf e7,fu.cellOf e8,fu.cellOf e0,fu.cellOf e1,fu.cellOf e2,fu.cellOf e3⟩);go_upto_region 19 with fail;go_region_held3 (fun w'=>w'.cell? ⟨vb,7,none⟩=some (.int .u32 y)/\w'.cell? ⟨vb,4,none⟩=some (.int .u32 e)/\w'.cell? ⟨vb,5,none⟩=some (.int .u32 f)/\w'.cell? ⟨vb,6,none⟩=some (.int .u32 g)/\w'.cell? ⟨kb,m,none⟩=some (.int .u32 kx)/\w'.cell? ⟨w.heap.size+1+1+1,m,none⟩=some (.int .u32 lx)/\w'.cell? ⟨w.heap.size+1,0,none⟩=some (.int .i64 32)/\w'.cell? ⟨w.heap.size+1,7,none⟩=some (.int .i64 6)/\w'.cell? ⟨w.heap.size+1,8,none⟩=some (.int .i64 11)/\w'.cell? ⟨w.heap.size+1,9,none⟩=some (.int .i64 25)) (first|go_keep|(exact HS.out _ f1)) (first|(go_at_call 195;(with_reducible refine (QM.out _).mono ?_);rintro e' v1 ⟨rfl,Yv⟩;have f1:=(Fr.refl NoB wr).drew.trans Yv));have kD:Hid (∀ u,Fr NoB v1 u->(fun w'=>w'.cell? ⟨vb,0,none⟩=some (.int .u32 a)/\w'.cell? ⟨vb,1,none⟩=some (.int .u32 b)/\w'.cell? ⟨vb,2,none⟩=some (.int .u32 c)/\w'.cell? ⟨w.heap.size+1,0,none⟩=some (.int .i64 32)/\w'.cell? ⟨w.heap.size+1,10,none⟩=some (.int .i64 2)/\w'.cell? ⟨w.heap.size+1,11,none⟩=some (.int .i64 13)/\w'.cell? ⟨w.heap.size+1,12,none⟩=some (.int .i64 22)) u):=hd' (fun u fu=>⟨fu.cellOf (f1.cellOf d0),fu.cellOf (f1.cellOf d1),fu.cellOf (f1.cellOf d2),fu.cellOf (f1.cellOf e0),fu.cellOf (f1.cellOf e4),fu.cellOf (f1.cellOf e5),fu.cellOf (f1.cellOf e6)⟩);have xg:=hd' (hn.cT f1);clear HS d0 d1 d2 d3 d4 d5 d6 e0 e1 e2 e3 e4 e5 e6 e7 e8;obtain ⟨b0,b1,b2,b3,b4,b5,b6⟩:=kD.out v1 (Fr.refl _ _);go_upto_region 20 with fail;go_region_held3 (fun w'=>w'.cell? ⟨vb,0,none⟩=some (.int .u32 a)/\w'.cell? ⟨vb,1,none⟩=some (.int .u32 b)/\w'.cell? ⟨vb,2,none⟩=some (.int .u32 c)/\w'.cell? ⟨w.heap.size+1,0,none⟩=some (.int .i64 32)/\w'.cell? ⟨w.heap.size+1,10,none⟩=some (.int .i64 2)/\w'.cell? ⟨w.heap.size+1,11,none⟩=some (.int .i64 13)/\w'.cell? ⟨w.heap.size+1,12,none⟩=some (.int .i64 22)) (first|go_keep|(exact kD.out _ f2)) (first|(go_at_call 195;(with_reducible refine (Mv.out _).mono ?_);rintro e' v2 ⟨rfl,Mw⟩;have f2:=(Fr.refl NoB v1).drew.trans Mw));go_upto_region 21 with fail;have uI:=(xg.out.cT f2);clear kD b0 b1 b2 b3 b4 b5 b6;go_region_law (refine ui rfl (.tmp 162) (.tmp 163) 117 117 rfl 155 Tryz.underlying117 I7 vb 1 7 7 ⟨vb,0,none⟩ 7 8 rfl rfl (u32C [a,b,c,d,e,f,g,y]) 224 uI.v ([a,b,c,d,e,f,g].map (Value.int .u32)) rfl (Fg uI.v) (Nat.le_refl 8) (by simp [Value.oneCell']) (u32C [a,a,b,c,d,e,f,g]) rfl ?_;intro v3 yT QN);have Ms:=(uI.cT ((Fr.refl NoB v2).drew)).only QN yT;have PL:=hd' Ms;have x0:v3.cell? ⟨vb,4,none⟩=some (.int .u32 d):=(yT.cell 4).trans rfl;have x1:v3.frozen? ⟨vb,4,none⟩=false:=yT.frozen 4;have x2:v3.frozen? ⟨vb,0,none⟩=false:=yT.frozen 0;have x3:v3.cell? ⟨vb,0,none⟩=some (.int .u32 a):=(yT.cell 0).trans rfl;rw [<- HT.out,<- HU.out];have mW:Hid (lG kx lx [a,b,c,d,e,f,g,y]=[IntKind.u32.wrap (tP e f g y kx lx+uP a b c),a,b,c,IntKind.u32.wrap (d+tP e f g y kx lx),e,f,g]):=hd' rfl;generalize tP e f g y kx lx=tt at *;generalize uP a b c=uu at *;clear Ms yT QN uI f2 Mw f1 Yv QM Mv HT HU hn Mx yS ZO ua;go_wp2_with fail;go_roundw
       case rel=>exact ⟨m+1,by omega,by simp,by rw [<- HV.out,mW.out];exact (PL.out.set 4 _).set 0 _⟩
       case measure=>simp [intOf];omega
      ·(have Fj:m=64:=by omega);(have k65:¬ (m:Int)<64:=by omega);have HF:Hid (jg st B=mM st [a,b,c,d,e,f,g,y] 8):=hd' (by rw [HR.out,<- HVe.out,Fj]);clear HV HVe ZP ZQ yS ZO ua Fj hlt hm HR;generalize [a,b,c,d,e,f,g,y]=V at *;go_wp2_with fail;go_loopw [175] (fun v wr=>∃ j:Nat,j<=8/\v=.int .i64 j/\NV w st L (mM st V j) vb wr) (fun v _=>8 - (intOf v).toNat)
       case atStart=>exact ⟨0,by omega,rfl,hn⟩
       case round=>
        clear hn;obtain ⟨j,hj,rfl,hn⟩:=hrel;(have My:(mM st V j).length=8:=by rw [xf,UT]);by_cases hlt:j<8
        ·(have j1:(j:Int)<8:=by omega);(have j0:(0:Int)<=j:=by omega);have HA:=hd' (show (mM st V j).set j (IntKind.u32.wrap ((mM st V j).getD j 0+st.getD j 0))=mM st V (j+1) from rfl);have HN:=hd' hn;have y0:wr.cell? ⟨vb,j,none⟩=some (.int .u32 ((mM st V j).getD j 0)):=by
          rw [hn.v.cell,jX (by omega),List.getD_eq_getElem?_getD,List.getElem?_eq_getElem (by omega)];rfl
         have y1:wr.cell? ⟨w.heap.size,j,none⟩=some (.int .u32 (st.getD j 0)):=by
          rw [hn.x.s.cell,jX (by omega),List.getD_eq_getElem?_getD,List.getElem?_eq_getElem (by omega)];rfl
         have y2:wr.frozen? ⟨vb,j,none⟩=false:=hn.v.frozen j;generalize mM st V j=A at *;generalize A.getD j 0=xa at *;generalize st.getD j 0=xs at *;clear hn;go_upto_region 28 with fail;go_region;go_wp2_with fail;go_roundw
         case rel=>exact ⟨j+1,by omega,by simp,by rw [<- HA.out];exact (HN.out.cT ((Fr.refl NoB wr).drew)).set j _⟩
         case measure=>simp [intOf];omega
        ·(have hj8:j=8:=by omega);(have j1:¬ (j:Int)<8:=by omega);rw [hj8,<- HF.out] at hn;(have I9:(jg st B).length=8:=by rw [rG,cj]);clear hj8 hlt hj HF My;generalize hZe:jg st B=Z at *;have HZ:=hd' hZe;clear hZe;have Mx:=hn.v;have xh:=hn.x.r;have UU:=xh.setRow (u32C Z);have gJ:=hn.x.fr;go_wp2_with (first|(refine wpList_load_row rfl 224 _ rfl vb rfl 224 _ _ _ Mx Tryz.underlying224 rfl (by rw [mh,fL,I9]) ?_)|(refine wpList_store_row rfl 224 _ _ rfl (w.heap.size+2) (u32C Z) rfl rfl 224 _ xh (by rw [mh,fL,I9]) (by rw [fL,I9];rfl) (yQ Z) ?_));exact bodyPost_ret (v:=.agg (u32C Z)) (M7 rfl _ _ (w.heap.size+2) Z I9 rfl UU) rfl ⟨by rw [HZ.out],gJ.setRow _ _ (Or.inl (by omega))⟩
end Go.Proofs.YtbifjamddbpcjaaGreatDoor
