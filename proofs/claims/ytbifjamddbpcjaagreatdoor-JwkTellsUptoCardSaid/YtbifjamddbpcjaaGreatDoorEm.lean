/- math/bits at this program: Add64, Sub64, Mul64. -/
import Derived.Test.YtbifjamddbpcjaaGreatDoorEa
import Derived.Shelf.Spec.BitsCarry
import Derived.Lib.Mul64
namespace Go.Proofs.YtbifjamddbpcjaaGreatDoor
set_option maxRecDepth 100000
set_option maxHeartbeats 25600000
open Go.RowKit
theorem ko (x y c:Nat) (hc:c<=1) (w:World):(callFunc 238 #[.int .u64 x,.int .u64 y,.int .u64 c]).run Tryz.prog w =
  .ok (.value (.tuple #[.int .u64 (((x+y+c) % 18446744073709551616:Nat):Int),.int .u64 (((x+y+c) / 18446744073709551616:Nat):Int)])) w:=by
 rw [run_callFunc_extern Tryz.func238 (by kernel_rfl) (by kernel_rfl) (by kernel_rfl) (e:=add64Entry) (by kernel_rfl),run_add64 x y c (by omega) (by omega) (by omega) (by omega)];simp only [Result.andThen]
 congr 5<;>omega
theorem GM (x y b:Nat) (hb:b<=1) (w:World):(callFunc 259 #[.int .u64 x,.int .u64 y,.int .u64 b]).run Tryz.prog w =
  .ok (.value (.tuple #[.int .u64 (((x+18446744073709551616 - y - b) % 18446744073709551616:Nat):Int),.int .u64 ((if x<y+b then 1 else 0:Nat):Int)])) w:=by
 rw [run_callFunc_extern Tryz.func259 (by kernel_rfl) (by kernel_rfl) (by kernel_rfl) (e:=sub64Entry) (by kernel_rfl),run_sub64 x y b hb];rfl
theorem Sx (a:Nat) (ha:a<18446744073709551616):bits .and .u64 (a:Int) 4294967295=((a % 4294967296:Nat):Int):=by
 have h:=bits_and_u64_nat a 4294967295 ha (by omega);rw [show a &&& 4294967295=a % 4294967296 from Nat.and_two_pow_sub_one_eq_mod a 32] at h;exact h
theorem aby (a:Nat):(a:Int) / 4294967296=((a / 4294967296:Nat):Int):=by omega
theorem uB (a:Nat) (ha:a<18446744073709551616):IntKind.u64.wrap (a:Int)=(a:Int):=by rw [IntKind.wrap_u64];omega
theorem abz (a:Nat):IntKind.u64.wrap (a:Int)=((a % 18446744073709551616:Nat):Int):=by rw [IntKind.wrap_u64];omega
theorem GP (x y:Nat) (hx:x<18446744073709551616) (hy:y<18446744073709551616) (w:World) :
  Calls Tryz.prog 258 #[.int .u64 x,.int .u64 y] w fun e w'=>e=.returned (.tuple #[.int .u64 ((x*y / 18446744073709551616:Nat):Int),.int .u64 ((x*y % 18446744073709551616:Nat):Int)])/\w'=w:=by
 obtain ⟨bd,bt,bw,lC⟩:=Lib.mul64_hi x y hx hy;have ba:=Lib.half_mul_le (a:=x / 4294967296) (b:=y / 4294967296) (by omega) (by omega);have bb:=Lib.half_mul_le (a:=x / 4294967296) (b:=y % 4294967296) (by omega) (by omega);have bc:=Lib.half_mul_le (a:=x % 4294967296) (b:=y / 4294967296) (by omega) (by omega);have ba':x / 4294967296*(y / 4294967296)<18446744073709551616:=by omega
 have bb':x / 4294967296*(y % 4294967296)<18446744073709551616:=by omega
 have bc':x % 4294967296*(y / 4294967296)<18446744073709551616:=by omega
 have bh1:x / 4294967296*(y / 4294967296)+(x / 4294967296*(y % 4294967296)+x % 4294967296*(y % 4294967296) / 4294967296) / 4294967296<18446744073709551616:=by omega
 have bh:x / 4294967296*(y / 4294967296)+(x / 4294967296*(y % 4294967296)+x % 4294967296*(y % 4294967296) / 4294967296) / 4294967296+((x / 4294967296*(y % 4294967296)+x % 4294967296*(y % 4294967296) / 4294967296) % 4294967296+x % 4294967296*(y / 4294967296)) / 4294967296<18446744073709551616:=by omega
 go_enter Tryz.func258,Tryz.ntmps258;go_wp2;simp only [Sx x hx,Sx y hy,aby,<- Int.natCast_mul,<- Int.natCast_add,uB _ bd,uB _ bb',uB _ bt,Sx _ bt,uB _ bc',uB _ bw,uB _ ba',uB _ bh1,uB _ bh,abz (x*y)];rw [lC];go_ret2;exact ⟨rfl,rfl⟩
abbrev numC (n:Nat):Array Value:=u64C (dR 4 n)
abbrev z4:Array Value := #[.int .u64 0,.int .u64 0,.int .u64 0,.int .u64 0]
theorem jo:(Tryz.prog.info? 176).map (·.size)=some 4:=by kernel_rfl
theorem oQ (l:List Nat):(u64C l).all (·.oneCell')=true:=by simp [Value.oneCell']
theorem fT (n:Nat):(numC n).size=4:=by rw [dJ,dS]
theorem bZ (k:Nat) {fn:Func} (h:fn.results = #[.cell k 176]) (tmps:Array Value) (w:World) (g:Nat) (n:Nat) (hp:tmps.getD k undef=.pointer (some ⟨g,0,none⟩)) (hb:Blk w g 176 (numC n)) :
  (results fn tmps).run Tryz.prog w=.ok (.agg (numC n)) w:=results_cell_row h tmps w g _ _ _ _ hp hb Tryz.underlying176 rfl (by rw [jo,fT])
theorem GQ (k u:Nat) {fn:Func} (h:fn.results = #[.cell k 176,.tmp u]) (tmps:Array Value) (w:World) (g:Nat) (n:Nat) (v:Value) (hp:tmps.getD k undef=.pointer (some ⟨g,0,none⟩)) (hv:tmps.getD u undef=v) (hb:Blk w g 176 (numC n)) :
  (results fn tmps).run Tryz.prog w=.ok (.tuple #[.agg (numC n),v]) w:=by
 have ph:tmps[k]?.getD undef=.pointer (some ⟨g,0,none⟩):=by simpa using hp
 have hv':tmps[u]?.getD undef=v:=by simpa using hv
 simp [results,h,ph,hv',asAddr,run_loadVar_row w g 176 176 (numC n) (0,0) _ hb Tryz.underlying176 rfl (by rw [jo,fT])]
structure NL (w:World) (a b:List Nat) (u:World):Prop where
 a:Blk u w.heap.size 176 (u64C a)
 b:Blk u (w.heap.size+1) 176 (u64C b)
 r:Blk u (w.heap.size+2) 176 z4
 fr:Fr NoB w u
theorem NL.start (w:World) (a b:List Nat):NL w a b (((w.alloc (.cells (u64C a) 176)).alloc (.cells (u64C b) 176)).alloc (.cells z4 176)):=by
 refine ⟨((Blk.new w _ _).alloc _).alloc _,?_,?_,(((Fr.refl _ _).alloc _).alloc _).alloc _⟩
 ·have:=(Blk.new (w.alloc (.cells (u64C a) 176)) 176 (u64C b)).alloc (.cells z4 176);simpa using this
 ·have:=Blk.new ((w.alloc (.cells (u64C a) 176)).alloc (.cells (u64C b) 176)) 176 z4;simpa using this
theorem NL.set {w u:World} {a b:List Nat} (h:NL w a b u) (i x:Nat):NL w (a.set i x) b (u.setCell ⟨w.heap.size,i,none⟩ (.int .u64 (x:Int))):=by
 have f:Fr (Only w.heap.size) u (u.setCell ⟨w.heap.size,i,none⟩ (.int .u64 (x:Int))):=(Fr.refl _ _).only _;have:=h.a.aS i (.int .u64 (x:Int));rw [aQ] at this;exact ⟨this,f.blk h.b (fun (e:w.heap.size+1=w.heap.size)=>by omega),f.blk h.r (fun (e:w.heap.size+2=w.heap.size)=>by omega),h.fr.setCell_new (p:=⟨w.heap.size,i,none⟩) (by simp) _⟩
theorem NL.drew {w u:World} {a b:List Nat} (h:NL w a b u):NL w a b u.drew:=⟨h.a,h.b,h.r,h.fr.drew⟩
theorem tj (n m:Nat) (w:World) (hn:n<115792089237316195423570985008687907853269984665640564039457584007913129639936) (hm:m<115792089237316195423570985008687907853269984665640564039457584007913129639936) :
  Calls Tryz.prog 239 #[.agg (numC n),.agg (numC m)] w fun e w'=>e=.returned (.tuple #[.agg (numC ((n+115792089237316195423570985008687907853269984665640564039457584007913129639936 - m) % 115792089237316195423570985008687907853269984665640564039457584007913129639936)),.bool (decide (n<m))])/\Fr NoB w w':=by
 have ha:=dS 4 n;have hb:=dS 4 m;have wa:=ij 4 n;have wb:=ij 4 m;have hr:=GG _ _ ha hb wa wb;rw [fh 4 n hn,fh 4 m hm] at hr;have hR1:=hd' (xU (k:=4) (by rw [oK,ha]) (tg (b:=dR 4 m) wa 4) hr.1);have Vq:=hd' hr.2;clear hr;have HA:=hd' wa;have HB:=hd' wb;clear wa wb hn hm;unfold numC;generalize dR 4 n=A at *;generalize dR 4 m=B at *;go_enter Tryz.func239,Tryz.ntmps239;go_upto_block 0 with fail;have dx:=NL.start w A B;generalize ((w.alloc (.cells (u64C A) 176)).alloc (.cells (u64C B) 176)).alloc (.cells z4 176)=W at *;go_wp2_with fail;go_loopw [8,6] (fun v v6 wr=>∃ i:Nat,i<=4/\v=.int .i64 i/\v6=.int .u64 ((dC A B i).2:Nat)/\NL w (dC A B i).1 B wr) (fun v _ _=>4 - (intOf v).toNat)
 case atStart=>exact ⟨0,by omega,rfl,rfl,dx⟩
 case round=>
  clear dx;obtain ⟨i,hi,rfl,rfl,hn⟩:=hrel;have hl4:(dC A B i).1.length=4:=by rw [oK,ha]
  have GR:=lV A B i;by_cases hlt:i<4
  ·have k1:(i:Int)<4:=by omega
   have k0:(0:Int)<=i:=by omega
   have HN:=hd' hn;have HS:Hid (dC A B (i+1)=((dC A B i).1.set i (((dC A B i).1.getD i 0+18446744073709551616 - B.getD i 0 - (dC A B i).2) % 18446744073709551616),if (dC A B i).1.getD i 0<B.getD i 0+(dC A B i).2 then 1 else 0)):=hd' rfl;have y0:wr.cell? ⟨w.heap.size,i,none⟩=some (.int .u64 ((dC A B i).1.getD i 0:Nat)):=by rw [hn.a.cell,gp (by omega)]
   have y1:wr.cell? ⟨w.heap.size+1,i,none⟩=some (.int .u64 (B.getD i 0:Nat)):=by rw [hn.b.cell,gp (by omega)]
   have y2:wr.frozen? ⟨w.heap.size,i,none⟩=false:=hn.a.frozen i;generalize dC A B i=p at *;obtain ⟨L,c⟩:=p;dsimp only at *;have abA:=GM (L.getD i 0) (B.getD i 0) c GR;generalize L.getD i 0=xa at *;generalize B.getD i 0=xb at *;generalize (xa+18446744073709551616 - xb - c) % 18446744073709551616=d at *;generalize (if xa<xb+c then 1 else 0:Nat)=c' at *;clear hn;go_upto_region 5 with fail;go_region;go_wp2_with fail;go_roundw
   case rel=>exact ⟨i+1,by omega,by simp,by rw [HS.out],by rw [HS.out];exact (HN.out.set i d).drew⟩
   case measure=>simp [intOf];omega
  ·have K4:i=4:=by omega
   have k1:¬ (i:Int)<4:=by omega
   generalize hp:dC A B i=p at *;rw [K4] at hp;rw [hp] at hR1 Vq;clear K4 hlt hi hp;obtain ⟨L,c⟩:=p;dsimp only at *;generalize hde:(n+115792089237316195423570985008687907853269984665640564039457584007913129639936 - m) % 115792089237316195423570985008687907853269984665640564039457584007913129639936=d at *;have HD:=hd' hde;clear hde;have Sy:=hn.a;have xh:=hn.r;rw [hR1.out] at Sy;have UU:=xh.setRow (numC d);have gJ:=(hn.fr.setRow (w.heap.size+2) (numC d) (Or.inl (by omega)));have hc1:((c:Int)==1)=decide (n<m):=by rw [Vq.out];split<;>simp_all
   go_wp2_with (first|(refine wpList_load_row rfl 176 _ rfl w.heap.size rfl 176 _ _ _ Sy Tryz.underlying176 rfl (by rw [jo,dJ,dS]) ?_)|(refine wpList_store_row rfl 176 _ _ rfl (w.heap.size+2) (numC d) rfl rfl 176 _ xh (by rw [jo,fT]) (by rw [fT];rfl) (oQ _) ?_));exact bodyPost_ret (GQ 4 5 rfl _ _ (w.heap.size+2) d (.bool (decide (n<m))) rfl rfl UU) rfl ⟨by rw [HD.out],gJ⟩
theorem aJ {ops:Array Oper} {rest:List Oper} {o:Oper} {a:Act} {w:World} {Q:Exit->Act->World->Prop} (hgd:o.guard=none) (x:Operand) (ho:o.op=.load 176 x) (g n:Nat) (hx:a.eval x=.pointer (some ⟨g,0,none⟩)) (hb:Blk w g 176 (numC n))
  (h:wpList Tryz.prog ops Q rest (a.put o.dst (.agg (numC n))) w):wpList Tryz.prog ops Q (o::rest) a w:=
 wpList_load_row hgd 176 x ho g hx 176 _ _ _ hb Tryz.underlying176 rfl (by rw [jo,fT]) h
theorem aV {ops:Array Oper} {rest:List Oper} {o:Oper} {a:Act} {w:World} {Q:Exit->Act->World->Prop} (hgd:o.guard=none) (x y:Operand) (ho:o.op=.store 176 x y) (g n:Nat) (hx:a.eval x=.pointer (some ⟨g,0,none⟩)) (hy:a.eval y=.agg (numC n)) (old:Array Value) (hb:Blk w g 176 old) (OI:old.size=4)
  (h:wpList Tryz.prog ops Q rest (a.put o.dst undef) (w.setRow g (numC n))):wpList Tryz.prog ops Q (o::rest) a w:=
 wpList_store_row hgd 176 x y ho g (numC n) hx hy 176 old hb (by rw [jo,fT]) (by rw [OI,fT]) (oQ _) h
theorem tl:(Tryz.prog.info? 225).map (·.size)=some 8:=by kernel_rfl
abbrev z8l:Array Value := #[.int .u64 0,.int .u64 0,.int .u64 0,.int .u64 0,.int .u64 0,.int .u64 0,.int .u64 0,.int .u64 0]
abbrev vR (n:Nat):Array Value:=u64C (dR 8 n)
theorem GS {ops:Array Oper} {rest:List Oper} {o:Oper} {a:Act} {w:World} {Q:Exit->Act->World->Prop} (hgd:o.guard=none) (x:Operand) (ho:o.op=.load 225 x) (g:Nat) (L:List Nat) (hl:L.length=8) (hx:a.eval x=.pointer (some ⟨g,0,none⟩)) (hb:Blk w g 225 (u64C L))
  (h:wpList Tryz.prog ops Q rest (a.put o.dst (.agg (u64C L))) w):wpList Tryz.prog ops Q (o::rest) a w:=
 wpList_load_row hgd 225 x ho g hx 225 _ _ _ hb Tryz.underlying225 rfl (by rw [tl,dJ,hl]) h
theorem tp {ops:Array Oper} {rest:List Oper} {o:Oper} {a:Act} {w:World} {Q:Exit->Act->World->Prop} (hgd:o.guard=none) (x y:Operand) (ho:o.op=.store 225 x y) (g:Nat) (L:List Nat) (hl:L.length=8) (hx:a.eval x=.pointer (some ⟨g,0,none⟩)) (hy:a.eval y=.agg (u64C L)) (old:Array Value) (hb:Blk w g 225 old) (OI:old.size=8)
  (h:wpList Tryz.prog ops Q rest (a.put o.dst undef) (w.setRow g (u64C L))):wpList Tryz.prog ops Q (o::rest) a w:=
 wpList_store_row hgd 225 x y ho g (u64C L) hx hy 225 old hb (by rw [tl,dJ,hl]) (by rw [OI,dJ,hl]) (oQ _) h
theorem GU (k:Nat) {fn:Func} (h:fn.results = #[.cell k 225]) (tmps:Array Value) (w:World) (g:Nat) (L:List Nat) (hl:L.length=8) (hp:tmps.getD k undef=.pointer (some ⟨g,0,none⟩)) (hb:Blk w g 225 (u64C L)) :
  (results fn tmps).run Tryz.prog w=.ok (.agg (u64C L)) w:=results_cell_row h tmps w g _ _ _ _ hp hb Tryz.underlying225 rfl (by rw [tl,dJ,hl])
theorem Ey (L:List Nat) (hL:L.length=4) (i:Nat) (hi:i<4) (u:World):(Instr.index 176 (.agg (u64C L)) (.int .i64 i)).run Tryz.prog u=.ok (.int .u64 (L.getD i 0:Nat)) u:=by
 match L,hL with
 | [a,b,c,d],_=>
  match i,hi with
  | 0,_=>show _=_;kernel_rfl
  | 1,_=>show _=_;kernel_rfl
  | 2,_=>show _=_;kernel_rfl
  | 3,_=>show _=_;kernel_rfl
theorem vS {ops:Array Oper} {rest:List Oper} {o:Oper} {a:Act} {w:World} {Q:Exit->Act->World->Prop} (hgd:o.guard=none) (x:Operand) (ho:o.op=.load 176 x) (g:Nat) (L:List Nat) (hl:L.length=4) (hx:a.eval x=.pointer (some ⟨g,0,none⟩)) (hb:Blk w g 176 (u64C L))
  (h:wpList Tryz.prog ops Q rest (a.put o.dst (.agg (u64C L))) w):wpList Tryz.prog ops Q (o::rest) a w:=
 wpList_load_row hgd 176 x ho g hx 176 _ _ _ hb Tryz.underlying176 rfl (by rw [jo,dJ,hl]) h
theorem K5 {P c o:Nat} (hP:P<=340282366920938463426481119284349108225) (hc:c<18446744073709551616) (ho:o<18446744073709551616) :
  P / 18446744073709551616+(P % 18446744073709551616+c+0) / 18446744073709551616<18446744073709551616 /\
  (o+(P % 18446744073709551616+c+0) % 18446744073709551616+0) % 18446744073709551616=(P+c+o) % 18446744073709551616 /\
  P / 18446744073709551616+(P % 18446744073709551616+c+0) / 18446744073709551616+(o+(P % 18446744073709551616+c+0) % 18446744073709551616+0) / 18446744073709551616=(P+c+o) / 18446744073709551616 /\
  (P+c+o) / 18446744073709551616<18446744073709551616:=by
 have h1:=Nat.div_add_mod P 18446744073709551616;have h2:=Nat.mod_lt P (show 18446744073709551616 > 0 by decide);generalize P / 18446744073709551616=hi at *;generalize P % 18446744073709551616=lo at *;subst h1;omega
theorem Sz {x y:Nat} (hx:x<18446744073709551616) (hy:y<18446744073709551616):x*y<=340282366920938463426481119284349108225:=
 Nat.le_trans (Nat.mul_le_mul (show x<=18446744073709551615 by omega) (show y<=18446744073709551615 by omega)) (by decide)
structure NW (w:World) (a b l:List Nat) (u:World):Prop where
 a:Blk u w.heap.size 176 (u64C a)
 b:Blk u (w.heap.size+1) 176 (u64C b)
 r:Blk u (w.heap.size+2) 225 z8l
 o:Blk u (w.heap.size+3) 225 (u64C l)
 fr:Fr NoB w u
theorem NW.start (w:World) (a b:List Nat):NW w a b [0,0,0,0,0,0,0,0] ((((w.alloc (.cells (u64C a) 176)).alloc (.cells (u64C b) 176)).alloc (.cells z8l 225)).alloc (.cells z8l 225)):=by
 refine ⟨(((Blk.new w _ _).alloc _).alloc _).alloc _,?_,?_,?_,((((Fr.refl _ _).alloc _).alloc _).alloc _).alloc _⟩
 ·have:=((Blk.new (w.alloc (.cells (u64C a) 176)) 176 (u64C b)).alloc (.cells z8l 225)).alloc (.cells z8l 225);simpa using this
 ·have:=(Blk.new ((w.alloc (.cells (u64C a) 176)).alloc (.cells (u64C b) 176)) 225 z8l).alloc (.cells z8l 225);simpa using this
 ·have:=Blk.new (((w.alloc (.cells (u64C a) 176)).alloc (.cells (u64C b) 176)).alloc (.cells z8l 225)) 225 z8l;have h3:(((w.alloc (.cells (u64C a) 176)).alloc (.cells (u64C b) 176)).alloc (.cells z8l 225)).heap.size=w.heap.size+3:=by simp
  rw [h3] at this;exact this
theorem NW.set {w u:World} {a b l:List Nat} (h:NW w a b l u) (i x:Nat):NW w a b (l.set i x) (u.setCell ⟨w.heap.size+3,i,none⟩ (.int .u64 (x:Int))):=by
 have f:Fr (Only (w.heap.size+3)) u (u.setCell ⟨w.heap.size+3,i,none⟩ (.int .u64 (x:Int))):=(Fr.refl _ _).only _;have:=h.o.aS i (.int .u64 (x:Int));rw [aQ] at this;exact ⟨f.blk h.a (fun (e:w.heap.size=w.heap.size+3)=>by omega),f.blk h.b (fun (e:w.heap.size+1=w.heap.size+3)=>by omega),f.blk h.r (fun (e:w.heap.size+2=w.heap.size+3)=>by omega),this,h.fr.setCell_new (p:=⟨w.heap.size+3,i,none⟩) (by simp) _⟩
theorem NW.cT {w u u':World} {a b l:List Nat} (h:NW w a b l u) (f:Fr NoB u u'):NW w a b l u':=⟨f.blk h.a (fun e=>e),f.blk h.b (fun e=>e),f.blk h.r (fun e=>e),f.blk h.o (fun e=>e),h.fr.trans f⟩
theorem Au (n m:Nat) (w:World) (hn:n<115792089237316195423570985008687907853269984665640564039457584007913129639936) (hm:m<115792089237316195423570985008687907853269984665640564039457584007913129639936) :
  Calls Tryz.prog 236 #[.agg (numC n),.agg (numC m)] w fun e w'=>e=.returned (.agg (vR (n*m)))/\Fr NoB w w':=by
 have ha:=dS 4 n;have hb:=dS 4 m;have wa:=ij 4 n;have wb:=ij 4 m;have HR:=hd' (xU (oN (dR 4 n) (dR 4 m) 4) (oO wa wb 4) (by rw [GH ha hb,fh 4 n hn,fh 4 m hm]));have HI:=hd' (fun i=>oO wa wb i);have HA:=hd' wa;have HB:=hd' wb;clear wa wb hn hm;unfold numC;generalize dR 4 n=A at *;generalize dR 4 m=B at *;go_enter Tryz.func236,Tryz.ntmps236;go_upto_region 2 with fail;have dx:=NW.start w A B;have Sy:=dx.a;generalize (((w.alloc (.cells (u64C A) 176)).alloc (.cells (u64C B) 176)).alloc (.cells z8l 225)).alloc (.cells z8l 225)=W at *;go_upto_block 0 with (refine vS rfl _ rfl w.heap.size A ha rfl Sy ?_);clear Sy;go_wp2_with fail;go_loopw [15] (fun v wr=>∃ i:Nat,i<=4/\v=.int .i64 i/\NW w A B (eX A B i) wr) (fun v _=>4 - (intOf v).toNat)
 case atStart=>exact ⟨0,by omega,rfl,dx⟩
 case round=>
  clear dx;obtain ⟨i,hi,rfl,hn⟩:=hrel;have Br:=oN A B i;have how:=HI.out i;by_cases hlt:i<4
  ·have k1:(i:Int)<4:=by omega
   have k0:(0:Int)<=i:=by omega
   have HS:=hd' (show eX A B (i+1)=(dt (A.getD i 0) B i (eX A B i) 4).1.set (i+4) (dt (A.getD i 0) B i (eX A B i) 4).2 from rfl);have hix:=Ey A ha i hlt;have Qh:=HA.out.at i;generalize A.getD i 0=x at *;generalize eX A B i=O at *;have OJ:=hn.b;go_upto_block 2 with (refine vS rfl _ rfl (w.heap.size+1) B hb rfl OJ ?_);clear OJ hix;go_wp2_with fail;go_loopw [20,8] (fun v v8 wr=>∃ k:Nat,k<=4/\v=.int .i64 k/\v8=.int .u64 ((dt x B i O k).2:Nat)/\NW w A B (dt x B i O k).1 wr) (fun v _ _=>4 - (intOf v).toNat)
   case atStart=>exact ⟨0,by omega,rfl,rfl,hn⟩
   case round=>
    clear hn;obtain ⟨k,hk,rfl,rfl,hn⟩:=hrel;have hlL:=oM x B i O k;have hwL:=qX (x:=x) (b:=B) (i:=i) how k;have hcL:=xR (i:=i) Qh HB.out how k;rw [Br] at hlL;by_cases Gi:k<4
    ·(have j1:(k:Int)<4:=by omega);(have j0:(0:Int)<=k:=by omega);have HN:=hd' hn;have HT:Hid (dt x B i O (k+1)=((dt x B i O k).1.set (i+k) ((x*B.getD k 0+(dt x B i O k).2+(dt x B i O k).1.getD (i+k) 0) % 18446744073709551616),(x*B.getD k 0+(dt x B i O k).2+(dt x B i O k).1.getD (i+k) 0) / 18446744073709551616)):=hd' rfl;have hiy:=Ey B hb k Gi;have hyw:=HB.out.at k;generalize dt x B i O k=p at *;obtain ⟨L,c⟩:=p;dsimp only at *;(have s1:(i:Int)+(k:Int)=((i+k:Nat):Int):=by omega);(have s2:((i+k:Nat):Int)<8:=by omega);(have s3:(0:Int)<=((i+k:Nat):Int):=by omega);have s4:IntKind.i64.wrap ((i+k:Nat):Int)=((i+k:Nat):Int):=IntWalk.i64_in _ (by omega);(have y0:wr.cell? ⟨w.heap.size+3,i+k,none⟩=some (.int .u64 (L.getD (i+k) 0:Nat)):=by rw [hn.o.cell,gp (by omega)]);have y2:wr.frozen? ⟨w.heap.size+3,i+k,none⟩=false:=hn.o.frozen _;have y0':wr.cell? ⟨w.heap.size+1+1+1,i+k,none⟩=some (.int .u64 (L.getD (i+k) 0:Nat)):=y0;have y2':wr.frozen? ⟨w.heap.size+1+1+1,i+k,none⟩=false:=y2;have abB:=hwL.at (i+k);clear hn y0 y2;generalize i+k=q at *;generalize L.getD q 0=o at *;generalize B.getD k 0=y at *;have HM:=hd' (fun u=>GP x y Qh hyw u);have hP:=Sz Qh hyw;generalize x*y=P at *;obtain ⟨m1,m2,m3,m4⟩:=K5 hP hcL abB;have HA1:Hid (∀ u,(callFunc 238 #[.int .u64 ((P % 18446744073709551616:Nat):Int),.int .u64 (c:Int),.int .u64 0]).run Tryz.prog u=.ok (.value (.tuple #[.int .u64 (((P % 18446744073709551616+c+0) % 18446744073709551616:Nat):Int),.int .u64 (((P % 18446744073709551616+c+0) / 18446744073709551616:Nat):Int)])) u):=hd' (fun u=>ko _ _ 0 (by omega) u);have HA2:Hid (∀ u,(callFunc 238 #[.int .u64 (o:Int),.int .u64 (((P % 18446744073709551616+c+0) % 18446744073709551616:Nat):Int),.int .u64 0]).run Tryz.prog u=.ok (.value (.tuple #[.int .u64 (((o+(P % 18446744073709551616+c+0) % 18446744073709551616+0) % 18446744073709551616:Nat):Int),.int .u64 (((o+(P % 18446744073709551616+c+0) % 18446744073709551616+0) / 18446744073709551616:Nat):Int)])) u):=hd' (fun u=>ko _ _ 0 (by omega) u);(have w1:IntKind.u64.wrap (((P / 18446744073709551616:Nat):Int)+(((P % 18446744073709551616+c+0) / 18446744073709551616:Nat):Int))=((P / 18446744073709551616+(P % 18446744073709551616+c+0) / 18446744073709551616:Nat):Int):=by rw [<- Int.natCast_add];exact uB _ m1);(have w2:IntKind.u64.wrap (((P / 18446744073709551616+(P % 18446744073709551616+c+0) / 18446744073709551616:Nat):Int)+(((o+(P % 18446744073709551616+c+0) % 18446744073709551616+0) / 18446744073709551616:Nat):Int))=(((P+c+o) / 18446744073709551616:Nat):Int):=by rw [<- Int.natCast_add,m3];exact uB _ m4);rw [m2] at HA2;clear m1 m2 m3 m4 hP;generalize (P+c+o) % 18446744073709551616=o' at *;generalize (P+c+o) / 18446744073709551616=c' at *;generalize (o+(P % 18446744073709551616+c+0) % 18446744073709551616+0) / 18446744073709551616=c2 at *;generalize P / 18446744073709551616+(P % 18446744073709551616+c+0) / 18446744073709551616=nM at *;generalize (P % 18446744073709551616+c+0) / 18446744073709551616=c1 at *;generalize (P % 18446744073709551616+c+0) % 18446744073709551616=lo2 at *;generalize P % 18446744073709551616=lo at *;generalize P / 18446744073709551616=hi at *;have ha1:=HA1.out;have ha2:=HA2.out;go_wp2_with (go_at_call 258;(with_reducible refine (HM.out _).mono ?_);rintro e w1 ⟨rfl,hw⟩;rw [hw]);go_roundw
     case rel=>exact ⟨k+1,by omega,by simp,by rw [HT.out],by rw [HT.out];exact HN.out.set q o'⟩
     case measure=>simp [intOf];omega
    ·(have V5:k=4:=by omega);(have j1:¬ (k:Int)<4:=by omega);generalize hp:dt x B i O k=p at *;rw [V5] at hp;rw [hp] at HS;clear V5 Gi hk hp hwL;obtain ⟨L,c⟩:=p;dsimp only at *;(have s1:(i:Int)+4=((i+4:Nat):Int):=by omega);(have s2:((i+4:Nat):Int)<8:=by omega);(have s3:(0:Int)<=((i+4:Nat):Int):=by omega);have s4:IntKind.i64.wrap ((i+4:Nat):Int)=((i+4:Nat):Int):=IntWalk.i64_in _ (by omega);have y0':wr.cell? ⟨w.heap.size+1+1+1,i+4,none⟩=some (.int .u64 (L.getD (i+4) 0:Nat)):=by
      show wr.cell? ⟨w.heap.size+3,i+4,none⟩=_;rw [hn.o.cell,gp (by omega)]
     have y2':wr.frozen? ⟨w.heap.size+1+1+1,i+4,none⟩=false:=hn.o.frozen (i+4);have HN:=hd' hn;clear hn;generalize i+4=q at *;generalize L.getD q 0=o at *;go_wp2_with fail;go_roundw
     case rel=>exact ⟨i+1,by omega,by simp,by rw [HS.out];exact HN.out.set q c⟩
     case measure=>simp [intOf];omega
  ·have K4:i=4:=by omega
   have k1:¬ (i:Int)<4:=by omega
   rw [K4,HR.out] at hn;have CX:=hn.o;have xh:=hn.r;have gJ:=hn.fr;have Ut:=dS 8 (n*m);have UU:=xh.setRow (vR (n*m));clear K4 hlt hi HR Br how hn;go_wp2_with (first|(refine GS rfl _ rfl (w.heap.size+3) (dR 8 (n*m)) Ut rfl CX ?_)|(refine tp rfl _ _ rfl (w.heap.size+2) (dR 8 (n*m)) Ut rfl rfl _ xh rfl ?_));exact bodyPost_ret (GU 4 rfl _ _ (w.heap.size+2) (dR 8 (n*m)) Ut rfl UU) rfl ⟨rfl,gJ.setRow _ _ (Or.inl (by omega))⟩
theorem gE:numC pP = #[.int .u64 18446744073709551615,.int .u64 4294967295,.int .u64 0,.int .u64 18446744069414584321]:=by
 simp [dR,pP]
theorem K6 {n c:Nat} (hc:c<=1) (h:n+c*115792089237316195423570985008687907853269984665640564039457584007913129639936<2*pP) (hn:n<115792089237316195423570985008687907853269984665640564039457584007913129639936) :
  (n+c*115792089237316195423570985008687907853269984665640564039457584007913129639936) % pP=if c=1\/¬ n<pP then (n+115792089237316195423570985008687907853269984665640564039457584007913129639936 - pP) % 115792089237316195423570985008687907853269984665640564039457584007913129639936 else n:=by
 have hp:=CV;have hh:=KV;rw [KZ h];rcases (by omega:c=0\/c=1) with hc|hc
 ·subst hc;by_cases h2:n<pP
  ·rw [if_pos (by omega),if_neg (by simp [h2])];omega
  ·rw [if_neg (by omega),if_pos (Or.inr h2)];omega
 ·subst hc;rw [if_neg (by omega),if_pos (Or.inl rfl)];omega
theorem jI (w:World):Calls Tryz.prog 168 #[.int .i64 0] w fun e w'=>e=.returned (.agg (numC pP))/\Fr NoB w w':=by
 have gA:Blk (w.alloc (.cells #[.int .u64 18446744073709551615,.int .u64 4294967295,.int .u64 0,.int .u64 18446744069414584321] 176)) w.heap.size 176 (numC pP):=by rw [gE];exact Blk.new _ _ _
 go_enter Tryz.func168,Tryz.ntmps168;go_wp2_with fail;exact bodyPost_ret (bZ 2 rfl _ _ w.heap.size pP rfl gA) rfl ⟨by rw [gE],(Fr.refl NoB w).alloc _⟩
theorem Av (n c:Nat) (w:World) (hc:c<=1) (h:n+c*115792089237316195423570985008687907853269984665640564039457584007913129639936<2*pP) (hn:n<115792089237316195423570985008687907853269984665640564039457584007913129639936) :
  Calls Tryz.prog 201 #[.agg (numC n),.int .u64 c,.agg (numC pP)] w fun e w'=>e=.returned (.agg (numC ((n+c*115792089237316195423570985008687907853269984665640564039457584007913129639936) % pP)))/\Fr NoB w w':=by
 have hv:=K6 hc h hn;have HL:=hd' (fun u=>tj n pP u hn CV);clear h hn;generalize (n+115792089237316195423570985008687907853269984665640564039457584007913129639936 - pP) % 115792089237316195423570985008687907853269984665640564039457584007913129639936=d at *;generalize (n+c*115792089237316195423570985008687907853269984665640564039457584007913129639936) % pP=x at *;have hcz:((c:Int)==1)=decide (c=1):=by rcases (by omega:c=0\/c=1) with h|h<;>subst h<;>rfl
 have HV:=hd' hv;clear hv;have dx:=NL.start w (dR 4 n) (dR 4 pP);go_enter Tryz.func201,Tryz.ntmps201;go_upto_region 1 with fail;generalize ((w.alloc (.cells (numC n) 176)).alloc (.cells (numC pP) 176)).alloc (.cells z4 176)=W at *;have b0:Blk W w.heap.size 176 (numC n):=dx.a;have b1:Blk W (w.heap.size+1) 176 (numC pP):=dx.b;have b2:Blk W (w.heap.size+2) 176 z4:=dx.r;have f0:=dx.fr;clear dx;go_upto_region 2 with (first|(refine aJ rfl _ rfl w.heap.size n rfl b0 ?_)|(refine aJ rfl _ rfl (w.heap.size+1) pP rfl b1 ?_)|(go_at_call 239;(with_reducible refine (HL.out _).mono ?_);rintro e w1 ⟨rfl,f1⟩;have b3:=Blk.new w1 176 z4)|(refine aV rfl _ _ rfl w1.heap.size d rfl rfl _ b3 rfl ?_));have b4:=b3.setRow (numC d);have f2:Fr NoB W ((w1.alloc (.cells z4 176)).setRow w1.heap.size (numC d)):=f1.trans (((Fr.refl NoB w1).alloc _).setRow _ _ (Or.inl (Nat.le_refl _)));have YX:=f2.blk b0 (fun e=>e);have Qi:=f2.blk b2 (fun e=>e);have f3:=f0.trans f2;clear f1 f2 b3 b1 b0 b2 f0;generalize (w1.alloc (.cells z4 176)).setRow w1.heap.size (numC d)=W2 at *;generalize w1.heap.size=g at *;by_cases hx:c=1\/¬ n<pP
 ·have hV:=HV.out;rw [if_pos hx] at hV;subst hV;have hg:=Qi.setRow (numC x);have gJ:=f3.setRow (w.heap.size+2) (numC x) (Or.inl (by omega));rcases (by omega:c=0\/c=1) with hc|hc
  ·subst hc;have hlt:¬ n<pP:=by omega
   have hd:decide (n<pP)=false:=by simp [hlt]
   rw [hd];go_wp2_with (first|(refine aJ rfl _ rfl g x rfl b4 ?_)|(refine aV rfl _ _ rfl (w.heap.size+2) x rfl rfl _ Qi rfl ?_));exact bodyPost_ret (bZ 6 rfl _ _ (w.heap.size+2) x rfl hg) rfl ⟨rfl,gJ⟩
  ·subst hc;go_wp2_with (first|(refine aJ rfl _ rfl g x rfl b4 ?_)|(refine aV rfl _ _ rfl (w.heap.size+2) x rfl rfl _ Qi rfl ?_));exact bodyPost_ret (bZ 6 rfl _ _ (w.heap.size+2) x rfl hg) rfl ⟨rfl,gJ⟩
 ·have hV:=HV.out;rw [if_neg hx] at hV;subst hV;have hg:=Qi.setRow (numC x);have gJ:=f3.setRow (w.heap.size+2) (numC x) (Or.inl (by omega));obtain rfl:c=0:=by omega
  have hlt:x<pP:=by omega
  have hd:decide (x<pP)=true:=by simp [hlt]
  rw [hd];go_wp2_with (first|(refine aJ rfl _ rfl w.heap.size x rfl YX ?_)|(refine aV rfl _ _ rfl (w.heap.size+2) x rfl rfl _ Qi rfl ?_));exact bodyPost_ret (bZ 6 rfl _ _ (w.heap.size+2) x rfl hg) rfl ⟨rfl,gJ⟩
theorem iW (n:Nat) (w:World) (hn:n<115792089237316195423570985008687907853269984665640564039457584007913129639936) :
  Calls Tryz.prog 167 #[.agg (numC n),.agg (numC pP)] w fun e w'=>e=.returned (.agg (numC (n % pP)))/\Fr NoB w w':=by
 have HO:Hid (∀ u,Calls Tryz.prog 201 #[.agg (numC n),.int .u64 0,.agg (numC pP)] u fun e w'=>e=.returned (.agg (numC (n % pP)))/\Fr NoB u w'):=hd' (fun u=>by
  have:=Av n 0 u (by omega) (by have:=KV;omega) hn;rw [Nat.zero_mul,Nat.add_zero] at this;exact this)
 generalize n % pP=x at *;have dx:=NL.start w (dR 4 n) (dR 4 pP);go_enter Tryz.func167,Tryz.ntmps167;go_upto_region 1 with fail;generalize ((w.alloc (.cells (numC n) 176)).alloc (.cells (numC pP) 176)).alloc (.cells z4 176)=W at *;have b0:Blk W w.heap.size 176 (numC n):=dx.a;have b1:Blk W (w.heap.size+1) 176 (numC pP):=dx.b;have b2:Blk W (w.heap.size+2) 176 z4:=dx.r;have f0:=dx.fr;clear dx hn;go_wp2_with (first|(refine aJ rfl _ rfl w.heap.size n rfl b0 ?_)|(refine aJ rfl _ rfl (w.heap.size+1) pP rfl b1 ?_)|(go_at_call 201;(with_reducible refine (HO.out _).mono ?_);rintro e w1 ⟨rfl,f1⟩;have b3:=f1.blk b2 (fun e=>e))|(refine aV rfl _ _ rfl (w.heap.size+2) x rfl rfl _ b3 rfl ?_));exact bodyPost_ret (bZ 4 rfl _ _ (w.heap.size+2) x rfl (b3.setRow _)) rfl ⟨rfl,(f0.trans f1).setRow _ _ (Or.inl (by omega))⟩
structure NS (w:World) (a b p:List Nat) (u:World):Prop where
 a:Blk u w.heap.size 176 (u64C a)
 b:Blk u (w.heap.size+1) 176 (u64C b)
 p:Blk u (w.heap.size+2) 176 (u64C p)
 r:Blk u (w.heap.size+3) 176 z4
 fr:Fr NoB w u
theorem NS.start (w:World) (a b p:List Nat):NS w a b p ((((w.alloc (.cells (u64C a) 176)).alloc (.cells (u64C b) 176)).alloc (.cells (u64C p) 176)).alloc (.cells z4 176)):=by
 refine ⟨(((Blk.new w _ _).alloc _).alloc _).alloc _,?_,?_,?_,((((Fr.refl _ _).alloc _).alloc _).alloc _).alloc _⟩
 ·have:=((Blk.new (w.alloc (.cells (u64C a) 176)) 176 (u64C b)).alloc (.cells (u64C p) 176)).alloc (.cells z4 176);simpa using this
 ·have:=(Blk.new ((w.alloc (.cells (u64C a) 176)).alloc (.cells (u64C b) 176)) 176 (u64C p)).alloc (.cells z4 176);simpa using this
 ·have:=Blk.new (((w.alloc (.cells (u64C a) 176)).alloc (.cells (u64C b) 176)).alloc (.cells (u64C p) 176)) 176 z4;simpa using this
theorem NS.set {w u:World} {a b p:List Nat} (h:NS w a b p u) (i x:Nat):NS w (a.set i x) b p (u.setCell ⟨w.heap.size,i,none⟩ (.int .u64 (x:Int))):=by
 have f:Fr (Only w.heap.size) u (u.setCell ⟨w.heap.size,i,none⟩ (.int .u64 (x:Int))):=(Fr.refl _ _).only _;have:=h.a.aS i (.int .u64 (x:Int));rw [aQ] at this;exact ⟨this,f.blk h.b (fun (e:w.heap.size+1=w.heap.size)=>by omega),f.blk h.p (fun (e:w.heap.size+2=w.heap.size)=>by omega),f.blk h.r (fun (e:w.heap.size+3=w.heap.size)=>by omega),h.fr.setCell_new (p:=⟨w.heap.size,i,none⟩) (by simp) _⟩
theorem NS.drew {w u:World} {a b p:List Nat} (h:NS w a b p u):NS w a b p u.drew:=⟨h.a,h.b,h.p,h.r,h.fr.drew⟩
theorem OL (n m:Nat) (w:World) (hn:n<pP) (hm:m<pP) :
  Calls Tryz.prog 234 #[.agg (numC n),.agg (numC m),.agg (numC pP)] w fun e w'=>e=.returned (.agg (numC ((n+m) % pP)))/\Fr NoB w w':=by
 have hp:=CV;have ha:=dS 4 n;have hb:=dS 4 m;have wa:=ij 4 n;have wb:=ij 4 m;have hr:=(xQ (dR 4 n) (dR 4 m) (by rw [ha,hb]) 4 (by omega)).2;rw [fh 4 n (Nat.lt_trans hn hp),List.take_of_length_le (by omega),fh 4 m (Nat.lt_trans hm hp),GI] at hr;have Bo:=xP (b:=dR 4 m) wa 4;have iB:(cp (dR 4 n) (dR 4 m) 4).1.length=4:=by rw [oL,ha]
 have Fq:=qW wa wb 4;have WA:=mH Bo iB;have HQ:Hid (∃ x c:Nat,(cp (dR 4 n) (dR 4 m) 4).1=dR 4 x/\(cp (dR 4 n) (dR 4 m) 4).2=c/\∀ u,Calls Tryz.prog 201 #[.agg (numC x),.int .u64 c,.agg (numC pP)] u fun e w'=>e=.returned (.agg (numC ((n+m) % pP)))/\Fr NoB u w'):=hd' ⟨val (cp (dR 4 n) (dR 4 m) 4).1,_,xU iB Bo rfl,rfl,fun u=>by
  have:=Av (val (cp (dR 4 n) (dR 4 m) 4).1) _ u Fq (by rw [hr];omega) WA;rw [hr] at this;exact this⟩
 have HW:=hd' (fun i=>qW wa wb i);clear hr Bo iB Fq WA hn hm wa wb hp;generalize (n+m) % pP=z at *;unfold numC;generalize dR 4 n=A at *;generalize dR 4 m=B at *;go_enter Tryz.func234,Tryz.ntmps234;go_upto_block 0 with fail;have dx:=NS.start w A B (dR 4 pP);generalize (((w.alloc (.cells (u64C A) 176)).alloc (.cells (u64C B) 176)).alloc (.cells (u64C (dR 4 pP)) 176)).alloc (.cells z4 176)=W at *;go_wp2_with fail;go_loopw [9,7] (fun v v6 wr=>∃ i:Nat,i<=4/\v=.int .i64 i/\v6=.int .u64 ((cp A B i).2:Nat)/\NS w (cp A B i).1 B (dR 4 pP) wr) (fun v _ _=>4 - (intOf v).toNat)
 case atStart=>exact ⟨0,by omega,rfl,rfl,dx⟩
 case round=>
  clear dx;obtain ⟨i,hi,rfl,rfl,hn⟩:=hrel;have hl4:(cp A B i).1.length=4:=by rw [oL,ha]
  have GR:=HW.out i;by_cases hlt:i<4
  ·have k1:(i:Int)<4:=by omega
   have k0:(0:Int)<=i:=by omega
   have HN:=hd' hn;have HS:Hid (cp A B (i+1)=((cp A B i).1.set i (((cp A B i).1.getD i 0+B.getD i 0+(cp A B i).2) % 18446744073709551616),((cp A B i).1.getD i 0+B.getD i 0+(cp A B i).2) / 18446744073709551616)):=hd' rfl;have y0:wr.cell? ⟨w.heap.size,i,none⟩=some (.int .u64 ((cp A B i).1.getD i 0:Nat)):=by rw [hn.a.cell,gp (by omega)]
   have y1:wr.cell? ⟨w.heap.size+1,i,none⟩=some (.int .u64 (B.getD i 0:Nat)):=by rw [hn.b.cell,gp (by omega)]
   have y2:wr.frozen? ⟨w.heap.size,i,none⟩=false:=hn.a.frozen i;generalize cp A B i=p at *;obtain ⟨L,c⟩:=p;dsimp only at *;have abA:=ko (L.getD i 0) (B.getD i 0) c GR;generalize L.getD i 0=xa at *;generalize B.getD i 0=xb at *;generalize (xa+xb+c) % 18446744073709551616=d at *;generalize (xa+xb+c) / 18446744073709551616=c' at *;clear hn;go_upto_region 5 with fail;go_region;go_wp2_with fail;go_roundw
   case rel=>exact ⟨i+1,by omega,by simp,by rw [HS.out],by rw [HS.out];exact (HN.out.set i d).drew⟩
   case measure=>simp [intOf];omega
  ·have K4:i=4:=by omega
   have k1:¬ (i:Int)<4:=by omega
   generalize hp:cp A B i=p at *;rw [K4] at hp;rw [hp] at HQ;clear K4 hlt hi hp;obtain ⟨L,c⟩:=p;obtain ⟨x,c',hx,hc,HO⟩:=HQ.out;dsimp only at *;have YL:=hd' HO;subst hc;have b0:Blk wr w.heap.size 176 (numC x):=by have:=hn.a;rw [hx] at this;exact this
   have b1:Blk wr (w.heap.size+2) 176 (numC pP):=hn.p;have b2:=hn.r;have f0:=hn.fr;clear hn hx HQ HO;go_wp2_with (first|(refine aJ rfl _ rfl w.heap.size x rfl b0 ?_)|(refine aJ rfl _ rfl (w.heap.size+2) pP rfl b1 ?_)|(go_at_call 201;(with_reducible refine (YL.out _).mono ?_);rintro e w1 ⟨rfl,f1⟩;have b3:=f1.blk b2 (fun e=>e))|(refine aV rfl _ _ rfl (w.heap.size+3) z rfl rfl _ b3 rfl ?_));exact bodyPost_ret (bZ 6 rfl _ _ (w.heap.size+3) z rfl (b3.setRow _)) rfl ⟨rfl,(f0.trans f1).setRow _ _ (Or.inl (by omega))⟩
end Go.Proofs.YtbifjamddbpcjaaGreatDoor
