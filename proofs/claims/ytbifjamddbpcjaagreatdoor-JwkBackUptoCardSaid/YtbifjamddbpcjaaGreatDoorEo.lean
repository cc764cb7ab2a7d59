/- P-256, the program's: one, plus, neg, minus. -/
import Derived.Test.YtbifjamddbpcjaaGreatDoorEm
import Derived.Test.YtbifjamddbpcjaaGreatDoorGc
import Derived.Lib.ConvBytes
namespace Go.Proofs.YtbifjamddbpcjaaGreatDoor
set_option maxRecDepth 100000
set_option maxHeartbeats 25600000
open Go.RowKit
theorem zero_words:numC 0=z4:=by simp [wds]
def Four (w:World) (g:Nat) (a b c d:Nat):Prop:=w.cell? ⟨g,0,none⟩=some (.int .u64 (a:Int))∧w.cell? ⟨g,1,none⟩=some (.int .u64 (b:Int))∧w.cell? ⟨g,2,none⟩=some (.int .u64 (c:Int))∧w.cell? ⟨g,3,none⟩=some (.int .u64 (d:Int))
theorem four_of (n:Nat):∃ a b c d,wds 4 n=[a,b,c,d]:=by
 have h:=wds_len 4 n
 match wds 4 n,h with
 | [a,b,c,d],_=>exact ⟨a,b,c,d,rfl⟩
theorem four_cells {w:World} {g a b c d:Nat} (h:Blk w g 176 (u64C [a,b,c,d])):Four w g a b c d:=⟨(h.cell 0).trans rfl,(h.cell 1).trans rfl,(h.cell 2).trans rfl,(h.cell 3).trans rfl⟩
theorem Four.fr {w u:World} {g a b c d:Nat} (h:Four w g a b c d) (f:Fr NoB w u):Four u g a b c d:=⟨f.cellOf h.1,f.cellOf h.2.1,f.cellOf h.2.2.1,f.cellOf h.2.2.2⟩
theorem four_other {u:World} {g:Nat} {x0 x1 x2 x3:Value} {p:Addr} (h:g≠p.block):((((u.setCell ⟨g,0,none⟩ x0).setCell ⟨g,1,none⟩ x1).setCell ⟨g,2,none⟩ x2).setCell ⟨g,3,none⟩ x3).cell? p=u.cell? p:=by
 have k:∀ (v:World) (i:Nat) (x:Value),(v.setCell ⟨g,i,none⟩ x).cell? p=v.cell? p:=fun v i x=>World.cell?_setCell_other v _ _ x (fun e=>h (by rw [← e]))
 rw [k,k,k,k]
theorem four_row {w:World} {g a b c d:Nat} (h:Blk w g 176 z4):Blk ((((w.setCell ⟨g,0,none⟩ (.int .u64 (a:Int))).setCell ⟨g,1,none⟩ (.int .u64 (b:Int))).setCell ⟨g,2,none⟩ (.int .u64 (c:Int))).setCell ⟨g,3,none⟩ (.int .u64 (d:Int))) g 176 (u64C [a,b,c,d]):=
 (((h.set_ 0 (.int .u64 (a:Int))).set_ 1 (.int .u64 (b:Int))).set_ 2 (.int .u64 (c:Int))).set_ 3 (.int .u64 (d:Int))
theorem one_any (w:World):Calls Tryz.prog 237 #[.agg (numC pP)] w fun e w'=>e=.returned (.agg (numC cP))∧Fr NoB w w':=by
 have HL:Hid (∀ u,Calls Tryz.prog 239 #[.agg z4,.agg (numC pP)] u fun e w'=>e=.returned (.tuple #[.agg (numC cP),.bool true])∧Fr NoB u w'):=Lib.hid (fun u=>by
  have:=less_any 0 pP u (by decide) p_lt
  rw [zero_words] at this
  exact this)
 have b0:Blk ((w.alloc (.cells (numC pP) 176)).alloc (.cells z4 176)) w.heap.size 176 (numC pP):=(Blk.new w _ _).alloc _
 have b2:Blk ((w.alloc (.cells (numC pP) 176)).alloc (.cells z4 176)) (w.heap.size+1) 176 z4:=by
  have:=Blk.new (w.alloc (.cells (numC pP) 176)) 176 z4
  simpa using this
 have f0:Fr NoB w ((w.alloc (.cells (numC pP) 176)).alloc (.cells z4 176)):=((Fr.refl _ _).alloc _).alloc _
 go_enter Tryz.func237,Tryz.ntmps237
 go_upto_region 1 with fail
 generalize (w.alloc (.cells (numC pP) 176)).alloc (.cells z4 176)=W at *
 go_upto_region 2 with (first|(refine num_load rfl _ rfl w.heap.size pP rfl b0 ?_)|(go_at_call 239;(with_reducible refine (HL.out _).mono ?_);rintro e w1 ⟨rfl,f1⟩;have b3:=Blk.new w1 176 z4)|(refine num_store rfl _ _ rfl w1.heap.size cP rfl rfl _ b3 rfl ?_))
 have b4:=b3.setRow (numC cP)
 have f2:Fr NoB W ((w1.alloc (.cells z4 176)).setRow w1.heap.size (numC cP)):=f1.trans (((Fr.refl NoB w1).alloc _).setRow _ _ (Or.inl (Nat.le_refl _)))
 have b2':=f2.blk b2 (fun e=>e)
 have f3:=f0.trans f2
 generalize (w1.alloc (.cells z4 176)).setRow w1.heap.size (numC cP)=W2 at *
 generalize w1.heap.size=g at *
 go_wp2_with (first|(refine num_load rfl _ rfl g cP rfl b4 ?_)|(refine num_store rfl _ _ rfl (w.heap.size+1) cP rfl rfl _ b2' rfl ?_))
 exact bodyPost_ret (num_back 2 rfl _ _ (w.heap.size+1) cP rfl (b2'.setRow _)) rfl ⟨rfl,f3.setRow _ _ (Or.inl (by omega))⟩
theorem plus_any (n m:Nat) (w:World) (hn:n<115792089237316195423570985008687907853269984665640564039457584007913129639936) (hm:m<115792089237316195423570985008687907853269984665640564039457584007913129639936) :
  Calls Tryz.prog 198 #[.int .i64 0,.agg (numC n),.agg (numC m)] w fun e w'=>e=.returned (.agg (numC ((n+m) % pP)))∧Fr NoB w w':=by
 have hp0:0<pP:=by decide
 have HB1:=Lib.hid (fun u=>below_any n u hn)
 have HB2:=Lib.hid (fun u=>below_any m u hm)
 have HS:Hid (∀ u,Calls Tryz.prog 234 #[.agg (numC (n % pP)),.agg (numC (m % pP)),.agg (numC pP)] u fun e w'=>e=.returned (.agg (numC ((n+m) % pP)))∧Fr NoB u w'):=Lib.hid (fun u=>by
  have:=sum_any (n % pP) (m % pP) u (Nat.mod_lt _ hp0) (Nat.mod_lt _ hp0)
  rw [← Nat.add_mod] at this
  exact this)
 clear hn hm
 generalize n % pP=n1 at *
 generalize m % pP=m1 at *
 generalize (n+m) % pP=z at *
 have hn0:=NL.start w (wds 4 n) (wds 4 m)
 go_enter Tryz.func198,Tryz.ntmps198
 go_upto_region 1 with fail
 generalize ((w.alloc (.cells (numC n) 176)).alloc (.cells (numC m) 176)).alloc (.cells z4 176)=W at *
 have b0:Blk W w.heap.size 176 (numC n):=hn0.a
 have b1:Blk W (w.heap.size+1) 176 (numC m):=hn0.b
 have b2:Blk W (w.heap.size+2) 176 z4:=hn0.r
 have f0:=hn0.fr
 clear hn0
 go_upto_region 2 with (first|(go_at_call 168;(with_reducible refine (modulus_any _).mono ?_);rintro e w1 ⟨rfl,f1⟩;have b3:=Blk.new w1 176 z4)|(refine num_store rfl _ _ rfl w1.heap.size pP rfl rfl _ b3 rfl ?_))
 have b4:=b3.setRow (numC pP)
 have f2:Fr NoB W ((w1.alloc (.cells z4 176)).setRow w1.heap.size (numC pP)):=f1.trans (((Fr.refl NoB w1).alloc _).setRow _ _ (Or.inl (Nat.le_refl _)))
 have c0:=f2.blk b0 (fun e=>e)
 have c1:=f2.blk b1 (fun e=>e)
 have c2:=f2.blk b2 (fun e=>e)
 have f3:=f0.trans f2
 have hgl:w.heap.size+2<w1.heap.size:=Nat.lt_of_lt_of_le b2.lt f1.size
 clear f1 f2 b3 b1 b0 b2 f0
 generalize (w1.alloc (.cells z4 176)).setRow w1.heap.size (numC pP)=W2 at *
 generalize w1.heap.size=g at *
 obtain ⟨n0,n1',n2,n3,hn4⟩:=four_of n
 obtain ⟨m0,m1',m2,m3,hm4⟩:=four_of m
 obtain ⟨a0,a1,a2,a3,ha4⟩:=four_of n1
 obtain ⟨b0,b1,b2,b3,hb4⟩:=four_of m1
 obtain ⟨z0,z1,z2,z3,hz4⟩:=four_of z
 have K1:Hid (∀ u,Calls Tryz.prog 167 #[.agg #[.int .u64 (n0:Int),.int .u64 (n1':Int),.int .u64 (n2:Int),.int .u64 (n3:Int)],.agg #[.int .u64 18446744073709551615,.int .u64 4294967295,.int .u64 0,.int .u64 18446744069414584321]] u fun e w'=>e=.returned (.agg #[.int .u64 (a0:Int),.int .u64 (a1:Int),.int .u64 (a2:Int),.int .u64 (a3:Int)])∧Fr NoB u w'):=Lib.hid (fun u=>by have:=HB1.out u;rw [p_words] at this;unfold numC at this;rw [hn4,ha4] at this;exact this)
 have K2:Hid (∀ u,Calls Tryz.prog 167 #[.agg #[.int .u64 (m0:Int),.int .u64 (m1':Int),.int .u64 (m2:Int),.int .u64 (m3:Int)],.agg #[.int .u64 18446744073709551615,.int .u64 4294967295,.int .u64 0,.int .u64 18446744069414584321]] u fun e w'=>e=.returned (.agg #[.int .u64 (b0:Int),.int .u64 (b1:Int),.int .u64 (b2:Int),.int .u64 (b3:Int)])∧Fr NoB u w'):=Lib.hid (fun u=>by have:=HB2.out u;rw [p_words] at this;unfold numC at this;rw [hm4,hb4] at this;exact this)
 have K3:Hid (∀ u,Calls Tryz.prog 234 #[.agg #[.int .u64 (a0:Int),.int .u64 (a1:Int),.int .u64 (a2:Int),.int .u64 (a3:Int)],.agg #[.int .u64 (b0:Int),.int .u64 (b1:Int),.int .u64 (b2:Int),.int .u64 (b3:Int)],.agg #[.int .u64 18446744073709551615,.int .u64 4294967295,.int .u64 0,.int .u64 18446744069414584321]] u fun e w'=>e=.returned (.agg #[.int .u64 (z0:Int),.int .u64 (z1:Int),.int .u64 (z2:Int),.int .u64 (z3:Int)])∧Fr NoB u w'):=Lib.hid (fun u=>by have:=HS.out u;rw [p_words] at this;unfold numC at this;rw [ha4,hb4,hz4] at this;exact this)
 have HZ:Hid (u64C [z0,z1,z2,z3]=numC z):=Lib.hid (by unfold numC;rw [hz4])
 have g0:=c0
 have g1:=c1
 have g4:=b4
 unfold numC at g0 g1
 rw [hn4] at g0
 rw [hm4] at g1
 rw [p_words] at g4
 have HSS:Hid (∀ u,Fr NoB W2 u→(fun w'=>w'.cell? ⟨w.heap.size,0,none⟩=some (.int .u64 (n0:Int))∧w'.cell? ⟨w.heap.size,1,none⟩=some (.int .u64 (n1':Int))∧w'.cell? ⟨w.heap.size,2,none⟩=some (.int .u64 (n2:Int))∧w'.cell? ⟨w.heap.size,3,none⟩=some (.int .u64 (n3:Int))∧w'.cell? ⟨w.heap.size+1,0,none⟩=some (.int .u64 (m0:Int))∧w'.cell? ⟨w.heap.size+1,1,none⟩=some (.int .u64 (m1':Int))∧w'.cell? ⟨w.heap.size+1,2,none⟩=some (.int .u64 (m2:Int))∧w'.cell? ⟨w.heap.size+1,3,none⟩=some (.int .u64 (m3:Int))∧w'.cell? ⟨g,0,none⟩=some (.int .u64 18446744073709551615)∧w'.cell? ⟨g,1,none⟩=some (.int .u64 4294967295)∧w'.cell? ⟨g,2,none⟩=some (.int .u64 0)∧w'.cell? ⟨g,3,none⟩=some (.int .u64 18446744069414584321)) u):=Lib.hid (fun u fu=>by
  have q0:=(four_cells g0).fr fu
  have q1:=(four_cells g1).fr fu
  refine ⟨q0.1,q0.2.1,q0.2.2.1,q0.2.2.2,q1.1,q1.2.1,q1.2.2.1,q1.2.2.2,fu.cellOf ((g4.cell 0).trans rfl),fu.cellOf ((g4.cell 1).trans rfl),fu.cellOf ((g4.cell 2).trans rfl),fu.cellOf ((g4.cell 3).trans rfl)⟩)
 have HS2:Hid (∀ u,Fr NoB W2 u→∀ x0 x1 x2 x3:Value,(fun w'=>w'.cell? ⟨w.heap.size,0,none⟩=some (.int .u64 (n0:Int))∧w'.cell? ⟨w.heap.size,1,none⟩=some (.int .u64 (n1':Int))∧w'.cell? ⟨w.heap.size,2,none⟩=some (.int .u64 (n2:Int))∧w'.cell? ⟨w.heap.size,3,none⟩=some (.int .u64 (n3:Int))∧w'.cell? ⟨w.heap.size+1,0,none⟩=some (.int .u64 (m0:Int))∧w'.cell? ⟨w.heap.size+1,1,none⟩=some (.int .u64 (m1':Int))∧w'.cell? ⟨w.heap.size+1,2,none⟩=some (.int .u64 (m2:Int))∧w'.cell? ⟨w.heap.size+1,3,none⟩=some (.int .u64 (m3:Int))∧w'.cell? ⟨g,0,none⟩=some (.int .u64 18446744073709551615)∧w'.cell? ⟨g,1,none⟩=some (.int .u64 4294967295)∧w'.cell? ⟨g,2,none⟩=some (.int .u64 0)∧w'.cell? ⟨g,3,none⟩=some (.int .u64 18446744069414584321)) ((((u.setCell ⟨w.heap.size+1+1,0,none⟩ x0).setCell ⟨w.heap.size+1+1,1,none⟩ x1).setCell ⟨w.heap.size+1+1,2,none⟩ x2).setCell ⟨w.heap.size+1+1,3,none⟩ x3)):=Lib.hid (fun u fu x0 x1 x2 x3=>by
  obtain ⟨q0,q1,q2,q3,q4,q5,q6,q7,q8,q9,q10,q11⟩:=HSS.out u fu
  have k0:w.heap.size+1+1≠w.heap.size:=by omega
  have k1:w.heap.size+1+1≠w.heap.size+1:=by omega
  have k2:w.heap.size+1+1≠g:=by omega
  exact ⟨(four_other k0).trans q0,(four_other k0).trans q1,(four_other k0).trans q2,(four_other k0).trans q3,(four_other k1).trans q4,(four_other k1).trans q5,(four_other k1).trans q6,(four_other k1).trans q7,(four_other k2).trans q8,(four_other k2).trans q9,(four_other k2).trans q10,(four_other k2).trans q11⟩)
 obtain ⟨q0,q1,q2,q3,q4,q5,q6,q7,q8,q9,q10,q11⟩:=HSS.out W2 (Fr.refl _ _)
 clear HB1 HB2 HS hn4 hm4 ha4 hb4 hz4 c0 c1 b4 g0 g1 g4 hp0
 go_region_held3 (fun w'=>w'.cell? ⟨w.heap.size,0,none⟩=some (.int .u64 (n0:Int))∧w'.cell? ⟨w.heap.size,1,none⟩=some (.int .u64 (n1':Int))∧w'.cell? ⟨w.heap.size,2,none⟩=some (.int .u64 (n2:Int))∧w'.cell? ⟨w.heap.size,3,none⟩=some (.int .u64 (n3:Int))∧w'.cell? ⟨w.heap.size+1,0,none⟩=some (.int .u64 (m0:Int))∧w'.cell? ⟨w.heap.size+1,1,none⟩=some (.int .u64 (m1':Int))∧w'.cell? ⟨w.heap.size+1,2,none⟩=some (.int .u64 (m2:Int))∧w'.cell? ⟨w.heap.size+1,3,none⟩=some (.int .u64 (m3:Int))∧w'.cell? ⟨g,0,none⟩=some (.int .u64 18446744073709551615)∧w'.cell? ⟨g,1,none⟩=some (.int .u64 4294967295)∧w'.cell? ⟨g,2,none⟩=some (.int .u64 0)∧w'.cell? ⟨g,3,none⟩=some (.int .u64 18446744069414584321)) (first|(with_reducible exact hfin.out)|(with_reducible exact HSS.out _ t3)|(with_reducible exact HSS.out _ t2)|(with_reducible exact HSS.out _ t1)|go_keep) (first|(go_at_call 167;(with_reducible refine (K1.out _).mono ?_);rintro e v1 ⟨rfl,t1'⟩;have t1:=(Fr.refl NoB W2).drew.trans t1')|(go_at_call 167;(with_reducible refine (K2.out _).mono ?_);rintro e v2 ⟨rfl,t2'⟩;have t2:=t1.trans t2')|(go_at_call 234;(with_reducible refine (K3.out _).mono ?_);rintro e v3 ⟨rfl,t3'⟩;have t3:=t2.trans t3';have hfin:=Lib.hid (HS2.out _ t3 (.int .u64 (z0:Int)) (.int .u64 (z1:Int)) (.int .u64 (z2:Int)) (.int .u64 (z3:Int)));have hb:=t3.blk c2 (fun e=>e);have y0:v3.cell? ⟨w.heap.size+2,0,none⟩=some (.int .u64 0):=(hb.cell 0).trans rfl;have y1:v3.cell? ⟨w.heap.size+2,1,none⟩=some (.int .u64 0):=(hb.cell 1).trans rfl;have y2:v3.cell? ⟨w.heap.size+2,2,none⟩=some (.int .u64 0):=(hb.cell 2).trans rfl;have y3:v3.cell? ⟨w.heap.size+2,3,none⟩=some (.int .u64 0):=(hb.cell 3).trans rfl;have x0:=hb.frozen 0;have x1:=hb.frozen 1;have x2:=hb.frozen 2;have x3:=hb.frozen 3))
 have hg:=four_row (a:=z0) (b:=z1) (c:=z2) (d:=z3) hb
 rw [HZ.out] at hg
 go_wp2_with fail
 exact bodyPost_ret (num_back 6 rfl _ _ (w.heap.size+2) z rfl hg) rfl ⟨rfl,((((f3.trans t3).setCell_new (p:=⟨w.heap.size+2,0,none⟩) (by simp) _).setCell_new (p:=⟨w.heap.size+2,1,none⟩) (by simp) _).setCell_new (p:=⟨w.heap.size+2,2,none⟩) (by simp) _).setCell_new (p:=⟨w.heap.size+2,3,none⟩) (by simp) _⟩
theorem num_eq (a b c d e f g h:Nat) (w:World):(Op.equalIn 10000 176 (.agg #[.int .u64 (a:Int),.int .u64 (b:Int),.int .u64 (c:Int),.int .u64 (d:Int)]) (.agg #[.int .u64 (e:Int),.int .u64 (f:Int),.int .u64 (g:Int),.int .u64 (h:Int)])).run Tryz.prog w=.ok (decide ([a,b,c,d]=[e,f,g,h])) w:=by
 have u3:=Tryz.underlying113
 have a3:=Tryz.isAgg113
 have z3:=Tryz.sizeOf113
 have u4:=Tryz.underlying176
 rw [show (10000:Nat)=9999+1 from rfl,Op.equalIn]
 simp only [Sem.run_bind,run_underlying u4,Result.andThen_ok]
 simp only [Std.Legacy.Range.forIn_eq_forIn_range',Std.Legacy.Range.size,Nat.sub_zero,Nat.add_sub_cancel,Nat.div_one,List.range'_succ,List.range'_zero,List.forIn_cons,List.forIn_nil]
 go_simp
 by_cases h1:a=e
 ·by_cases h2:b=f
  ·by_cases h3:c=g
   ·by_cases h4:d=h
    ·simp [h1,h2,h3,h4]
    ·simp [h1,h2,h3,h4];omega
   ·simp [h1,h2,h3];omega
  ·simp [h1,h2];omega
 ·simp [h1];omega
theorem num_eq_zero (x:Nat) (hx:x<115792089237316195423570985008687907853269984665640564039457584007913129639936) (w:World):(Op.equalIn 10000 176 (.agg (numC x)) (.agg z4)).run Tryz.prog w=.ok (decide (x=0)) w:=by
 obtain ⟨a,b,c,d,h⟩:=four_of x
 have e:=num_eq a b c d 0 0 0 0 w
 have k:=wds_inj (k:=4) hx (show 0<18446744073709551616 ^ 4 by decide)
 rw [h,show wds 4 0=[0,0,0,0] by simp [wds]] at k
 unfold numC
 rw [h]
 rw [show decide (x=0)=decide ([a,b,c,d]=[0,0,0,0]) by simp only [k]]
 exact e
theorem num_eq_two (x y:Nat) (hx:x<115792089237316195423570985008687907853269984665640564039457584007913129639936) (hy:y<115792089237316195423570985008687907853269984665640564039457584007913129639936) (w:World):(Op.equalIn 10000 176 (.agg (numC x)) (.agg (numC y))).run Tryz.prog w=.ok (decide (x=y)) w:=by
 obtain ⟨a,b,c,d,h⟩:=four_of x
 obtain ⟨a',b',c',d',h'⟩:=four_of y
 have e:=num_eq a b c d a' b' c' d' w
 have k:=wds_inj (k:=4) hx hy
 rw [h,h'] at k
 unfold numC
 rw [h,h']
 rw [show decide (x=y)=decide ([a,b,c,d]=[a',b',c',d']) by simp only [k]]
 exact e
theorem neg_any (n:Nat) (w:World) (hn:n<115792089237316195423570985008687907853269984665640564039457584007913129639936) :
  Calls Tryz.prog 235 #[.int .i64 0,.agg (numC n)] w fun e w'=>e=.returned (.agg (numC ((pP - n % pP) % pP)))∧Fr NoB w w':=by
 have hp0:0<pP:=by decide
 have HB:=Lib.hid (fun u=>below_any n u hn)
 have hxl:n % pP<pP:=Nat.mod_lt _ hp0
 generalize n % pP=x at *
 have hp:=p_lt
 have HL:Hid (x≠0→∀ u,Calls Tryz.prog 239 #[.agg (numC pP),.agg (numC x)] u fun e w'=>e=.returned (.tuple #[.agg (numC ((pP - x) % pP)),.bool false])∧Fr NoB u w'):=Lib.hid (fun h0 u=>by
  have:=less_any pP x u hp (by omega)
  rw [show (pP+115792089237316195423570985008687907853269984665640564039457584007913129639936 - x) % 115792089237316195423570985008687907853269984665640564039457584007913129639936=(pP - x) % pP by rw [Nat.mod_eq_of_lt (show pP - x<pP by omega)];omega,show decide (pP<x)=false by simp;omega] at this
  exact this)
 have HZ:Hid (x=0→(pP - x) % pP=0):=Lib.hid (fun h0=>by rw [h0,Nat.sub_zero,Nat.mod_self])
 generalize (pP - x) % pP=z at *
 have b0:Blk ((w.alloc (.cells (numC n) 176)).alloc (.cells z4 176)) w.heap.size 176 (numC n):=(Blk.new w _ _).alloc _
 have b2:Blk ((w.alloc (.cells (numC n) 176)).alloc (.cells z4 176)) (w.heap.size+1) 176 z4:=by
  have:=Blk.new (w.alloc (.cells (numC n) 176)) 176 z4
  simpa using this
 have f0:Fr NoB w ((w.alloc (.cells (numC n) 176)).alloc (.cells z4 176)):=((Fr.refl _ _).alloc _).alloc _
 clear hn
 go_enter Tryz.func235,Tryz.ntmps235
 go_upto_region 1 with fail
 generalize (w.alloc (.cells (numC n) 176)).alloc (.cells z4 176)=W at *
 go_upto_region 2 with (first|(go_at_call 168;(with_reducible refine (modulus_any _).mono ?_);rintro e w1 ⟨rfl,f1⟩;have b3:=Blk.new w1 176 z4)|(refine num_store rfl _ _ rfl w1.heap.size pP rfl rfl _ b3 rfl ?_))
 have b4:=b3.setRow (numC pP)
 have f2:Fr NoB W ((w1.alloc (.cells z4 176)).setRow w1.heap.size (numC pP)):=f1.trans (((Fr.refl NoB w1).alloc _).setRow _ _ (Or.inl (Nat.le_refl _)))
 have c0:=f2.blk b0 (fun e=>e)
 have c2:=f2.blk b2 (fun e=>e)
 have f3:=f0.trans f2
 have hgl:w.heap.size+1<w1.heap.size:=Nat.lt_of_lt_of_le b2.lt f1.size
 clear f1 f2 b3 b0 b2 f0
 generalize (w1.alloc (.cells z4 176)).setRow w1.heap.size (numC pP)=W2 at *
 generalize w1.heap.size=g at *
 go_upto_region 3 with (first|(refine num_load rfl _ rfl w.heap.size n rfl c0 ?_)|(refine num_load rfl _ rfl g pP rfl b4 ?_)|(go_at_call 167;(with_reducible refine (HB.out _).mono ?_);rintro e w2 ⟨rfl,f4⟩;have c0':=f4.blk c0 (fun e=>e))|(refine num_store rfl _ _ rfl w.heap.size x rfl rfl _ c0' (numC_size _) ?_))
 have d0:=c0'.setRow (numC x)
 have fo:Fr (Only w.heap.size) W2 (w2.setRow w.heap.size (numC x)):=(f4.mono (fun _ _ e=>e.elim)).trans (Fr.rowO _ _ _)
 have d2:=fo.blk c2 (fun (e:w.heap.size+1=w.heap.size)=>by omega)
 have d4:=fo.blk b4 (fun (e:g=w.heap.size)=>by omega)
 have f5:Fr NoB w (w2.setRow w.heap.size (numC x)):=(f3.trans f4).setRow _ _ (Or.inl (Nat.le_refl _))
 clear fo c0' c0 c2 b4 f3 f4
 generalize w2.setRow w.heap.size (numC x)=W3 at *
 have hq:∀ u,(Op.equalIn 10000 176 (.agg (numC x)) (.agg z4)).run Tryz.prog u=.ok (decide (x=0)) u:=fun u=>num_eq_zero x (by omega) u
 go_upto_if 15 with (refine num_load rfl _ rfl w.heap.size x rfl d0 ?_)
 have hp':=hp
 clear hq hp hp0
 by_cases h0:x=0
 ·have e0:decide (x=0)=true:=by simp [h0]
  rw [e0]
  have hxz:z=x:=by rw [HZ.out h0,h0]
  clear h0 e0 HL HZ HB
  subst hxz
  go_wp2_with (first|(refine num_load rfl _ rfl w.heap.size z rfl d0 ?_)|(refine num_store rfl _ _ rfl (w.heap.size+1) z rfl rfl _ d2 rfl ?_))
  exact bodyPost_ret (num_back 4 rfl _ _ (w.heap.size+1) z rfl (d2.setRow _)) rfl ⟨rfl,f5.setRow _ _ (Or.inl (by omega))⟩
 ·have e0:decide (x=0)=false:=by simp [h0]
  have HL2:=Lib.hid (HL.out h0)
  rw [e0]
  clear h0 e0
  go_upto_region 6 with (first|(refine num_load rfl _ rfl w.heap.size x rfl d0 ?_)|(refine num_load rfl _ rfl g pP rfl d4 ?_)|(go_at_call 239;(with_reducible refine (HL2.out _).mono ?_);rintro e w5 ⟨rfl,f6⟩;have b5:=Blk.new w5 176 z4)|(refine num_store rfl _ _ rfl w5.heap.size z rfl rfl _ b5 rfl ?_))
  have b6:=b5.setRow (numC z)
  have f7:Fr NoB W3 ((w5.alloc (.cells z4 176)).setRow w5.heap.size (numC z)):=f6.trans (((Fr.refl NoB w5).alloc _).setRow _ _ (Or.inl (Nat.le_refl _)))
  have e2:=f7.blk d2 (fun e=>e)
  have f8:=f5.trans f7
  clear f6 f7 b5 d0 d2 d4 f5
  generalize (w5.alloc (.cells z4 176)).setRow w5.heap.size (numC z)=W4 at *
  generalize w5.heap.size=g5 at *
  go_wp2_with (first|(refine num_load rfl _ rfl g5 z rfl b6 ?_)|(refine num_store rfl _ _ rfl (w.heap.size+1) z rfl rfl _ e2 rfl ?_))
  exact bodyPost_ret (num_back 4 rfl _ _ (w.heap.size+1) z rfl (e2.setRow _)) rfl ⟨rfl,f8.setRow _ _ (Or.inl (by omega))⟩
theorem minus_any (n m:Nat) (w:World) (hn:n<115792089237316195423570985008687907853269984665640564039457584007913129639936) (hm:m<115792089237316195423570985008687907853269984665640564039457584007913129639936) :
  Calls Tryz.prog 199 #[.int .i64 0,.agg (numC n),.agg (numC m)] w fun e w'=>e=.returned (.agg (numC ((n+(pP - m % pP) % pP) % pP)))∧Fr NoB w w':=by
 have hp0:0<pP:=by decide
 have hp:=p_lt
 have HB1:=Lib.hid (fun u=>neg_any m u hm)
 have HB2:=Lib.hid (fun u=>plus_any n ((pP - m % pP) % pP) u hn (Nat.lt_trans (Nat.mod_lt _ hp0) hp))
 clear hn hm
 generalize (pP - m % pP) % pP=a at *
 generalize (n+a) % pP=z at *
 have hn0:=NL.start w (wds 4 n) (wds 4 m)
 go_enter Tryz.func199,Tryz.ntmps199
 go_upto_region 1 with fail
 generalize ((w.alloc (.cells (numC n) 176)).alloc (.cells (numC m) 176)).alloc (.cells z4 176)=W2 at *
 have c0:Blk W2 w.heap.size 176 (numC n):=hn0.a
 have c1:Blk W2 (w.heap.size+1) 176 (numC m):=hn0.b
 have c2:Blk W2 (w.heap.size+2) 176 z4:=hn0.r
 have f3:=hn0.fr
 clear hn0 hp hp0
 obtain ⟨n0,n1,n2,n3,hn4⟩:=four_of n
 obtain ⟨m0,m1,m2,m3,hm4⟩:=four_of m
 obtain ⟨a0,a1,a2,a3,ha4⟩:=four_of a
 obtain ⟨z0,z1,z2,z3,hz4⟩:=four_of z
 have K1:Hid (∀ u,Calls Tryz.prog 235 #[.int .i64 0,.agg #[.int .u64 (m0:Int),.int .u64 (m1:Int),.int .u64 (m2:Int),.int .u64 (m3:Int)]] u fun e w'=>e=.returned (.agg #[.int .u64 (a0:Int),.int .u64 (a1:Int),.int .u64 (a2:Int),.int .u64 (a3:Int)])∧Fr NoB u w'):=Lib.hid (fun u=>by have:=HB1.out u;unfold numC at this;rw [hm4,ha4] at this;exact this)
 have K2:Hid (∀ u,Calls Tryz.prog 198 #[.int .i64 0,.agg #[.int .u64 (n0:Int),.int .u64 (n1:Int),.int .u64 (n2:Int),.int .u64 (n3:Int)],.agg #[.int .u64 (a0:Int),.int .u64 (a1:Int),.int .u64 (a2:Int),.int .u64 (a3:Int)]] u fun e w'=>e=.returned (.agg #[.int .u64 (z0:Int),.int .u64 (z1:Int),.int .u64 (z2:Int),.int .u64 (z3:Int)])∧Fr NoB u w'):=Lib.hid (fun u=>by have:=HB2.out u;unfold numC at this;rw [hn4,ha4,hz4] at this;exact this)
 have HZ:Hid (u64C [z0,z1,z2,z3]=numC z):=Lib.hid (by unfold numC;rw [hz4])
 have g0:=c0
 have g1:=c1
 unfold numC at g0 g1
 rw [hn4] at g0
 rw [hm4] at g1
 have HSS:Hid (∀ u,Fr NoB W2 u→(fun w'=>w'.cell? ⟨w.heap.size,0,none⟩=some (.int .u64 (n0:Int))∧w'.cell? ⟨w.heap.size,1,none⟩=some (.int .u64 (n1:Int))∧w'.cell? ⟨w.heap.size,2,none⟩=some (.int .u64 (n2:Int))∧w'.cell? ⟨w.heap.size,3,none⟩=some (.int .u64 (n3:Int))∧w'.cell? ⟨w.heap.size+1,0,none⟩=some (.int .u64 (m0:Int))∧w'.cell? ⟨w.heap.size+1,1,none⟩=some (.int .u64 (m1:Int))∧w'.cell? ⟨w.heap.size+1,2,none⟩=some (.int .u64 (m2:Int))∧w'.cell? ⟨w.heap.size+1,3,none⟩=some (.int .u64 (m3:Int))) u):=Lib.hid (fun u fu=>by
  have q0:=(four_cells g0).fr fu
  have q1:=(four_cells g1).fr fu
  refine ⟨q0.1,q0.2.1,q0.2.2.1,q0.2.2.2,q1.1,q1.2.1,q1.2.2.1,q1.2.2.2⟩)
 have HS2:Hid (∀ u,Fr NoB W2 u→∀ x0 x1 x2 x3:Value,(fun w'=>w'.cell? ⟨w.heap.size,0,none⟩=some (.int .u64 (n0:Int))∧w'.cell? ⟨w.heap.size,1,none⟩=some (.int .u64 (n1:Int))∧w'.cell? ⟨w.heap.size,2,none⟩=some (.int .u64 (n2:Int))∧w'.cell? ⟨w.heap.size,3,none⟩=some (.int .u64 (n3:Int))∧w'.cell? ⟨w.heap.size+1,0,none⟩=some (.int .u64 (m0:Int))∧w'.cell? ⟨w.heap.size+1,1,none⟩=some (.int .u64 (m1:Int))∧w'.cell? ⟨w.heap.size+1,2,none⟩=some (.int .u64 (m2:Int))∧w'.cell? ⟨w.heap.size+1,3,none⟩=some (.int .u64 (m3:Int))) ((((u.setCell ⟨w.heap.size+1+1,0,none⟩ x0).setCell ⟨w.heap.size+1+1,1,none⟩ x1).setCell ⟨w.heap.size+1+1,2,none⟩ x2).setCell ⟨w.heap.size+1+1,3,none⟩ x3)):=Lib.hid (fun u fu x0 x1 x2 x3=>by
  obtain ⟨q0,q1,q2,q3,q4,q5,q6,q7⟩:=HSS.out u fu
  have k0:w.heap.size+1+1≠w.heap.size:=by omega
  have k1:w.heap.size+1+1≠w.heap.size+1:=by omega
  exact ⟨(four_other k0).trans q0,(four_other k0).trans q1,(four_other k0).trans q2,(four_other k0).trans q3,(four_other k1).trans q4,(four_other k1).trans q5,(four_other k1).trans q6,(four_other k1).trans q7⟩)
 obtain ⟨q0,q1,q2,q3,q4,q5,q6,q7⟩:=HSS.out W2 (Fr.refl _ _)
 clear HB1 HB2 hn4 hm4 ha4 hz4 c0 c1 g0 g1
 go_region_held3 (fun w'=>w'.cell? ⟨w.heap.size,0,none⟩=some (.int .u64 (n0:Int))∧w'.cell? ⟨w.heap.size,1,none⟩=some (.int .u64 (n1:Int))∧w'.cell? ⟨w.heap.size,2,none⟩=some (.int .u64 (n2:Int))∧w'.cell? ⟨w.heap.size,3,none⟩=some (.int .u64 (n3:Int))∧w'.cell? ⟨w.heap.size+1,0,none⟩=some (.int .u64 (m0:Int))∧w'.cell? ⟨w.heap.size+1,1,none⟩=some (.int .u64 (m1:Int))∧w'.cell? ⟨w.heap.size+1,2,none⟩=some (.int .u64 (m2:Int))∧w'.cell? ⟨w.heap.size+1,3,none⟩=some (.int .u64 (m3:Int))) (first|(with_reducible exact hfin.out)|(with_reducible exact HSS.out _ t2)|(with_reducible exact HSS.out _ t1)|go_keep) (first|(go_at_call 235;(with_reducible refine (K1.out _).mono ?_);rintro e v1 ⟨rfl,t1'⟩;have t1:=(Fr.refl NoB W2).drew.trans t1')|(go_at_call 198;(with_reducible refine (K2.out _).mono ?_);rintro e v2 ⟨rfl,t2'⟩;have t2:=t1.trans t2';have hfin:=Lib.hid (HS2.out _ t2 (.int .u64 (z0:Int)) (.int .u64 (z1:Int)) (.int .u64 (z2:Int)) (.int .u64 (z3:Int)));have hb:=t2.blk c2 (fun e=>e);have y0:v2.cell? ⟨w.heap.size+2,0,none⟩=some (.int .u64 0):=(hb.cell 0).trans rfl;have y1:v2.cell? ⟨w.heap.size+2,1,none⟩=some (.int .u64 0):=(hb.cell 1).trans rfl;have y2:v2.cell? ⟨w.heap.size+2,2,none⟩=some (.int .u64 0):=(hb.cell 2).trans rfl;have y3:v2.cell? ⟨w.heap.size+2,3,none⟩=some (.int .u64 0):=(hb.cell 3).trans rfl;have x0:=hb.frozen 0;have x1:=hb.frozen 1;have x2:=hb.frozen 2;have x3:=hb.frozen 3))
 have hg:=four_row (a:=z0) (b:=z1) (c:=z2) (d:=z3) hb
 rw [HZ.out] at hg
 go_wp2_with fail
 exact bodyPost_ret (num_back 6 rfl _ _ (w.heap.size+2) z rfl hg) rfl ⟨rfl,((((f3.trans t2).setCell_new (p:=⟨w.heap.size+2,0,none⟩) (by simp) _).setCell_new (p:=⟨w.heap.size+2,1,none⟩) (by simp) _).setCell_new (p:=⟨w.heap.size+2,2,none⟩) (by simp) _).setCell_new (p:=⟨w.heap.size+2,3,none⟩) (by simp) _⟩
def cellsN (u:World) (g:Nat):List Nat:=(List.range 8).map (fun i=>match u.cell? ⟨g,i,none⟩ with|some (.int _ x)=>x.toNat|_=>0)
theorem eight_nat {l:List Nat} (h:l.length=8):∃ a b c d e f g k,l=[a,b,c,d,e,f,g,k]:=by
 match l,h with
 | [a,b,c,d,e,f,g,k],_=>exact ⟨a,b,c,d,e,f,g,k,rfl⟩
theorem cellsN_of {u:World} {g:Nat} {L:List Nat} (hl:L.length=8) (hb:Blk u g 225 (u64C L)):cellsN u g=L:=by
 obtain ⟨a,b,c,d,e,f,h,k,rfl⟩:=eight_nat hl
 have k0:=(hb.cell 0).trans (show _=some (.int .u64 (a:Int)) from rfl)
 have k1:=(hb.cell 1).trans (show _=some (.int .u64 (b:Int)) from rfl)
 have k2:=(hb.cell 2).trans (show _=some (.int .u64 (c:Int)) from rfl)
 have k3:=(hb.cell 3).trans (show _=some (.int .u64 (d:Int)) from rfl)
 have k4:=(hb.cell 4).trans (show _=some (.int .u64 (e:Int)) from rfl)
 have k5:=(hb.cell 5).trans (show _=some (.int .u64 (f:Int)) from rfl)
 have k6:=(hb.cell 6).trans (show _=some (.int .u64 (h:Int)) from rfl)
 have k7:=(hb.cell 7).trans (show _=some (.int .u64 (k:Int)) from rfl)
 simp [cellsN,List.range_succ,k0,k1,k2,k3,k4,k5,k6,k7]
theorem or_zero {a b c d:Nat} (ha:a<18446744073709551616) (hb:b<18446744073709551616) (hc:c<18446744073709551616) (hd:d<18446744073709551616) :
  ∃ o:Nat,bits .or .u64 (bits .or .u64 (bits .or .u64 (a:Int) (b:Int)) (c:Int)) (d:Int)=(o:Int)∧(o=0 ↔ a=0∧b=0∧c=0∧d=0):=by
 refine ⟨a ||| b ||| c ||| d,?_,?_⟩
 ·have h1:a ||| b<18446744073709551616:=Nat.or_lt_two_pow (n:=64) ha hb
  have h2:a ||| b ||| c<18446744073709551616:=Nat.or_lt_two_pow (n:=64) h1 hc
  rw [bits_or_u64_nat a b ha hb,bits_or_u64_nat _ c h1 hc,bits_or_u64_nat _ d h2 hd]
 ·simp only [Nat.or_eq_zero_iff,and_assoc]
theorem set8_fr {a w:World} {g:Nat} {v0 v1 v2 v3 v4 v5 v6 v7:Value} (h:Fr NoB a w) (hg:a.heap.size≤g):Fr NoB a ((((((((w.setCell ⟨g,0,none⟩ v0).setCell ⟨g,1,none⟩ v1).setCell ⟨g,2,none⟩ v2).setCell ⟨g,3,none⟩ v3).setCell ⟨g,4,none⟩ v4).setCell ⟨g,5,none⟩ v5).setCell ⟨g,6,none⟩ v6).setCell ⟨g,7,none⟩ v7):=
 (((((((h.setCell_new (p:=⟨g,0,none⟩) hg _).setCell_new (p:=⟨g,1,none⟩) hg _).setCell_new (p:=⟨g,2,none⟩) hg _).setCell_new (p:=⟨g,3,none⟩) hg _).setCell_new (p:=⟨g,4,none⟩) hg _).setCell_new (p:=⟨g,5,none⟩) hg _).setCell_new (p:=⟨g,6,none⟩) hg _).setCell_new (p:=⟨g,7,none⟩) hg _
theorem set8_row {w:World} {g:Nat} {x0 x1 x2 x3 x4 x5 x6 x7:Nat} (h:Blk w g 225 z8l):Blk ((((((((w.setCell ⟨g,0,none⟩ (.int .u64 (x0:Int))).setCell ⟨g,1,none⟩ (.int .u64 (x1:Int))).setCell ⟨g,2,none⟩ (.int .u64 (x2:Int))).setCell ⟨g,3,none⟩ (.int .u64 (x3:Int))).setCell ⟨g,4,none⟩ (.int .u64 (x4:Int))).setCell ⟨g,5,none⟩ (.int .u64 (x5:Int))).setCell ⟨g,6,none⟩ (.int .u64 (x6:Int))).setCell ⟨g,7,none⟩ (.int .u64 (x7:Int))) g 225 (u64C [x0,x1,x2,x3,x4,x5,x6,x7]):=by
 have h0:Blk w g 225 (u64C [0,0,0,0,0,0,0,0]):=h
 have h1:=h0.set_ 0 (.int .u64 (x0:Int))
 rw [u64C_set] at h1
 have h2:=h1.set_ 1 (.int .u64 (x1:Int))
 rw [u64C_set] at h2
 have h3:=h2.set_ 2 (.int .u64 (x2:Int))
 rw [u64C_set] at h3
 have h4:=h3.set_ 3 (.int .u64 (x3:Int))
 rw [u64C_set] at h4
 have h5:=h4.set_ 4 (.int .u64 (x4:Int))
 rw [u64C_set] at h5
 have h6:=h5.set_ 5 (.int .u64 (x5:Int))
 rw [u64C_set] at h6
 have h7:=h6.set_ 6 (.int .u64 (x6:Int))
 rw [u64C_set] at h7
 have h8:=h7.set_ 7 (.int .u64 (x7:Int))
 rw [u64C_set] at h8
 exact h8
structure NT (w:World) (g7 g8:Nat) (L:List Nat) (u:World):Prop where
 r:Blk u (w.heap.size+2) 176 z4
 p:Blk u g7 176 (numC pP)
 o:Blk u g8 225 (u64C L)
 fr:Fr NoB w u
 h7:w.heap.size+2<g7
 h8:g7<g8
theorem NT.noB {w u u':World} {g7 g8:Nat} {L:List Nat} (h:NT w g7 g8 L u) (f:Fr NoB u u'):NT w g7 g8 L u':=⟨f.blk h.r (fun e=>e),f.blk h.p (fun e=>e),f.blk h.o (fun e=>e),h.fr.trans f,h.h7,h.h8⟩
theorem NT.set {w u:World} {g7 g8:Nat} {L:List Nat} (h:NT w g7 g8 L u) (i x:Nat):NT w g7 g8 (L.set i x) (u.setCell ⟨g8,i,none⟩ (.int .u64 (x:Int))):=by
 have h7:=h.h7
 have h8:=h.h8
 have f:Fr (Only g8) u (u.setCell ⟨g8,i,none⟩ (.int .u64 (x:Int))):=(Fr.refl _ _).only _
 have:=h.o.set_ i (.int .u64 (x:Int))
 rw [u64C_set] at this
 exact ⟨f.blk h.r (fun (e:w.heap.size+2=g8)=>by omega),f.blk h.p (fun (e:g7=g8)=>by omega),this,h.fr.setCell_new (p:=⟨g8,i,none⟩) (show w.heap.size≤g8 by omega) _,h7,h8⟩
def mixW (X L:List Nat):Nat→List Nat×Nat
 | 0=>(L,0)
 | i+1=>((mixW X L i).1.set i ((X.getD i 0+(if i<4 then L.getD i 0 else 0)+(mixW X L i).2) % 18446744073709551616),(X.getD i 0+(if i<4 then L.getD i 0 else 0)+(mixW X L i).2) / 18446744073709551616)
theorem mix_len (X L:List Nat):∀ i,(mixW X L i).1.length=L.length
 | 0=>rfl
 | i+1=>by rw [mixW,List.length_set,mix_len X L i]
theorem mix_end (x0 x1 x2 x3 x4 x5 x6 x7 l0 l1 l2 l3 l4 l5 l6 l7:Nat):(mixW [x0,x1,x2,x3,x4,x5,x6,x7] [l0,l1,l2,l3,l4,l5,l6,l7] 8).1=(sumM [x0,x1,x2,x3,x4,x5,x6,x7] [l0,l1,l2,l3,0,0,0,0] 8).1:=rfl
theorem mix_at (x0 x1 x2 x3 x4 x5 x6 x7 l0 l1 l2 l3 l4 l5 l6 l7:Nat):∀ i,i<8→(mixW [x0,x1,x2,x3,x4,x5,x6,x7] [l0,l1,l2,l3,l4,l5,l6,l7] i).1.getD i 0=[l0,l1,l2,l3,l4,l5,l6,l7].getD i 0
 | 0,_|1,_|2,_|3,_|4,_|5,_|6,_|7,_=>rfl
theorem mix_low (x0 x1 x2 x3 x4 x5 x6 x7 l0 l1 l2 l3 l4 l5 l6 l7:Nat):∀ i,i≤8→(mixW [x0,x1,x2,x3,x4,x5,x6,x7] [l0,l1,l2,l3,l4,l5,l6,l7] i).2=(sumM [x0,x1,x2,x3,x4,x5,x6,x7] [l0,l1,l2,l3,0,0,0,0] i).2
 | 0,_|1,_|2,_|3,_|4,_|5,_|6,_|7,_|8,_=>rfl
theorem times_any (n m:Nat) (w:World) (hn:n<115792089237316195423570985008687907853269984665640564039457584007913129639936) (hm:m<115792089237316195423570985008687907853269984665640564039457584007913129639936) :
  Calls Tryz.prog 200 #[.int .i64 0,.agg (numC n),.agg (numC m)] w fun e w'=>e=.returned (.agg (numC (n*m % pP)))∧Fr NoB w w':=by
 have HW:=Lib.hid (fun u=>wide_any n m u hn hm)
 have hnm:n*m<18446744073709551616 ^ 8:=by rw [pow8];exact Nat.mul_lt_mul'' hn hm
 have hwd:=wds_len 8 (n*m)
 have hww:=wds_inW 8 (n*m)
 have hwv:=wds_val 8 (n*m) hnm
 clear hn hm hnm
 generalize hP:n*m=P at *
 have hn0:=NL.start w (wds 4 n) (wds 4 m)
 go_enter Tryz.func200,Tryz.ntmps200
 go_upto_region 1 with fail
 generalize ((w.alloc (.cells (numC n) 176)).alloc (.cells (numC m) 176)).alloc (.cells z4 176)=W at *
 have b0:Blk W w.heap.size 176 (numC n):=hn0.a
 have b1:Blk W (w.heap.size+1) 176 (numC m):=hn0.b
 have b2:Blk W (w.heap.size+2) 176 z4:=hn0.r
 have f0:=hn0.fr
 clear hn0
 go_upto_region 2 with (first|(go_at_call 168;(with_reducible refine (modulus_any _).mono ?_);rintro e w1 ⟨rfl,f1⟩;have b3:=Blk.new w1 176 z4)|(refine num_store rfl _ _ rfl w1.heap.size pP rfl rfl _ b3 rfl ?_))
 have b4:=b3.setRow (numC pP)
 have f2:Fr NoB W ((w1.alloc (.cells z4 176)).setRow w1.heap.size (numC pP)):=f1.trans (((Fr.refl NoB w1).alloc _).setRow _ _ (Or.inl (Nat.le_refl _)))
 have d0:=f2.blk b0 (fun e=>e)
 have d1:=f2.blk b1 (fun e=>e)
 have d2:=f2.blk b2 (fun e=>e)
 have f3:=f0.trans f2
 have hg7:w.heap.size+2<w1.heap.size:=Nat.lt_of_lt_of_le b2.lt f1.size
 clear f1 f2 b3 b1 b0 b2 f0
 generalize (w1.alloc (.cells z4 176)).setRow w1.heap.size (numC pP)=W2 at *
 generalize w1.heap.size=g7 at *
 go_upto_block 0 with (first|(refine num_load rfl _ rfl w.heap.size n rfl d0 ?_)|(refine num_load rfl _ rfl (w.heap.size+1) m rfl d1 ?_)|(go_at_call 236;(with_reducible refine (HW.out _).mono ?_);rintro e w2 ⟨rfl,f4⟩;have b5:=Blk.new w2 225 z8l)|(refine wide_store rfl _ _ rfl w2.heap.size (wds 8 P) hwd rfl rfl _ b5 rfl ?_))
 have f5:Fr NoB W2 ((w2.alloc (.cells z8l 225)).setRow w2.heap.size (wideC P)):=f4.trans (((Fr.refl NoB w2).alloc _).setRow _ _ (Or.inl (Nat.le_refl _)))
 have hn1:NT w g7 w2.heap.size (wds 8 P) ((w2.alloc (.cells z8l 225)).setRow w2.heap.size (wideC P)):=⟨f5.blk d2 (fun e=>e),f5.blk b4 (fun e=>e),b5.setRow _,f3.trans f5,hg7,Nat.lt_of_lt_of_le b4.lt f4.size⟩
 clear f5 f4 b5 d0 d1 d2 b4 f3 hg7 HW
 generalize (w2.alloc (.cells z8l 225)).setRow w2.heap.size (wideC P)=W3 at *
 generalize w2.heap.size=g8 at *
 simp only [Act.put,Nat.add_assoc,Nat.reduceAdd]
 go_wp2_with fail
 go_loopw [10] (fun _ wr=>∃ L:List Nat,L.length=8∧InW L∧val L % pP=P % pP∧NT w g7 g8 L wr) (fun _ wr=>val (cellsN wr g8))
 case atStart=>exact ⟨wds 8 P,hwd,hww,by rw [hwv],hn1⟩
 case round=>
  clear hn1 hwd hww hwv
  obtain ⟨L,hl,hw,hv,hn⟩:=hrel
  have hmeas:=cellsN_of hl hn.o
  have hdv:=down_of hl hw
  have hdr:=down_room hl hw
  have hdm:=down_mod (val L)
  have hspl:=val_split L 4 (by omega)
  have hHI:=hw.drop 4
  have hLO:=hw.take 4
  obtain ⟨l0,l1,l2,l3,l4,l5,l6,l7,rfl⟩:=eight_nat hl
  obtain ⟨o,ho,hoz⟩:=or_zero (hw l4 (by simp)) (hw l5 (by simp)) (hw l6 (by simp)) (hw l7 (by simp))
  have HOZ:=Lib.hid hoz
  clear hoz
  have hHIw:InW [l4,l5,l6,l7]:=hHI
  have hLOw:InW [l0,l1,l2,l3]:=hLO
  have hdv':downP (val [l0,l1,l2,l3,l4,l5,l6,l7])=val [l4,l5,l6,l7]*cP+val [l0,l1,l2,l3]:=hdv
  have hdr':val [l4,l5,l6,l7]*cP+val [l0,l1,l2,l3]<18446744073709551616 ^ 8:=hdr
  have hspl':val [l0,l1,l2,l3,l4,l5,l6,l7]=val [l0,l1,l2,l3]+18446744073709551616 ^ 4*val [l4,l5,l6,l7]:=hspl
  clear hdv hdr hspl hHI hLO
  have HK0:Hid (val [l4,l5,l6,l7]=0→∀ u,Calls Tryz.prog 167 #[.agg #[.int .u64 (l0:Int),.int .u64 (l1:Int),.int .u64 (l2:Int),.int .u64 (l3:Int)],.agg (numC pP)] u fun e w'=>e=.returned (.agg (numC (P % pP)))∧Fr NoB u w'):=Lib.hid (fun h0 u=>by
   have:=below_any (val [l0,l1,l2,l3]) u (val_lt4 hLOw rfl)
   have e1:numC (val [l0,l1,l2,l3])=u64C [l0,l1,l2,l3]:=by unfold numC;rw [show (4:Nat)=[l0,l1,l2,l3].length from rfl,wds_of hLOw]
   rw [e1,show val [l0,l1,l2,l3]=val [l0,l1,l2,l3,l4,l5,l6,l7] by rw [hspl',h0,Nat.mul_zero,Nat.add_zero],hv] at this
   exact this)
  obtain ⟨c0,c1,c2,c3,hc4⟩:=four_of cP
  have hxl:=wds_len 8 (val [l4,l5,l6,l7]*cP)
  have hxw:=wds_inW 8 (val [l4,l5,l6,l7]*cP)
  have hxv:=wds_val 8 (val [l4,l5,l6,l7]*cP) (Nat.lt_of_le_of_lt (Nat.le_add_right _ _) hdr')
  obtain ⟨x0,x1,x2,x3,x4,x5,x6,x7,hx8⟩:=eight_nat hxl
  rw [hx8] at hxw hxv
  have K1:Hid (∀ u,Calls Tryz.prog 237 #[.agg #[.int .u64 18446744073709551615,.int .u64 4294967295,.int .u64 0,.int .u64 18446744069414584321]] u fun e w'=>e=.returned (.agg #[.int .u64 (c0:Int),.int .u64 (c1:Int),.int .u64 (c2:Int),.int .u64 (c3:Int)])∧Fr NoB u w'):=Lib.hid (fun u=>by have:=one_any u;rw [p_words] at this;unfold numC at this;rw [hc4] at this;exact this)
  have K2:Hid (∀ u,Calls Tryz.prog 236 #[.agg #[.int .u64 (l4:Int),.int .u64 (l5:Int),.int .u64 (l6:Int),.int .u64 (l7:Int)],.agg #[.int .u64 (c0:Int),.int .u64 (c1:Int),.int .u64 (c2:Int),.int .u64 (c3:Int)]] u fun e w'=>e=.returned (.agg #[.int .u64 (x0:Int),.int .u64 (x1:Int),.int .u64 (x2:Int),.int .u64 (x3:Int),.int .u64 (x4:Int),.int .u64 (x5:Int),.int .u64 (x6:Int),.int .u64 (x7:Int)])∧Fr NoB u w'):=Lib.hid (fun u=>by
   have:=wide_any (val [l4,l5,l6,l7]) cP u (val_lt4 hHIw rfl) (by decide)
   have e1:wds 4 (val [l4,l5,l6,l7])=[l4,l5,l6,l7]:=wds_of hHIw
   unfold numC wideC at this
   rw [e1,hc4,hx8] at this
   exact this)
  have hLl8:InW [l0,l1,l2,l3,0,0,0,0]:=by
   intro y hy
   simp only [List.mem_cons,List.not_mem_nil,or_false] at hy
   rcases hy with rfl|rfl|rfl|rfl|rfl|rfl|rfl|rfl
   ·exact hLOw _ (by simp)
   ·exact hLOw _ (by simp)
   ·exact hLOw _ (by simp)
   ·exact hLOw _ (by simp)
   all_goals decide
  have hsv:=(sum_val [x0,x1,x2,x3,x4,x5,x6,x7] [l0,l1,l2,l3,0,0,0,0] rfl 8 (Nat.le_refl 8)).2
  have hsw:=sum_inW (b:=[l0,l1,l2,l3,0,0,0,0]) hxw 8
  have hsl:(sumM [x0,x1,x2,x3,x4,x5,x6,x7] [l0,l1,l2,l3,0,0,0,0] 8).1.length=8:=by rw [sum_len];rfl
  have hslow:=fun i=>sum_low (i:=i) hxw hLl8
  have hsc:=hslow 8
  have hslt:=val_lt hsw
  rw [hsl] at hslt
  rw [hxv,show ([l0,l1,l2,l3,0,0,0,0]:List Nat).take 8=[l0,l1,l2,l3,0,0,0,0] from rfl,show val [l0,l1,l2,l3,0,0,0,0]=val [l0,l1,l2,l3] by simp [val],← hdv'] at hsv
  have hdl8:downP (val [l0,l1,l2,l3,l4,l5,l6,l7])<18446744073709551616 ^ 8:=by rw [hdv'];exact hdr'
  have hsv':val (sumM [x0,x1,x2,x3,x4,x5,x6,x7] [l0,l1,l2,l3,0,0,0,0] 8).1=downP (val [l0,l1,l2,l3,l4,l5,l6,l7]):=by
   generalize (sumM [x0,x1,x2,x3,x4,x5,x6,x7] [l0,l1,l2,l3,0,0,0,0] 8).2=cc at *
   rw [pow8] at hsv hdl8
   rcases (by omega:cc=0∨cc=1) with h|h
   ·rw [h,Nat.zero_mul,Nat.add_zero] at hsv;exact hsv
   ·rw [h,Nat.one_mul] at hsv;omega
  have HEND:Hid (1≤val [l4,l5,l6,l7]→val (sumM [x0,x1,x2,x3,x4,x5,x6,x7] [l0,l1,l2,l3,0,0,0,0] 8).1<val (cellsN wr g8)∧val (sumM [x0,x1,x2,x3,x4,x5,x6,x7] [l0,l1,l2,l3,0,0,0,0] 8).1 % pP=P % pP∧InW (sumM [x0,x1,x2,x3,x4,x5,x6,x7] [l0,l1,l2,l3,0,0,0,0] 8).1):=Lib.hid (fun h1=>by
   rw [hsv',hmeas]
   refine ⟨down_lt ?_,by rw [hdm,hv],hsw⟩
   rw [hspl',pow4]
   omega)
  have HLOW:=Lib.hid hslow
  have HH:Hid (l4=0∧l5=0∧l6=0∧l7=0 ↔ val [l4,l5,l6,l7]=0):=Lib.hid (by simp only [val];omega)
  clear hsv hsw hsc hslt hdl8 hsv' hLl8 hxw hxv hxl hdm hv hspl' hdv' hdr' hHIw hLOw hmeas hslow hc4 hx8 hw hl
  have hno:=hn.o
  have q0:wr.cell? ⟨g8,0,none⟩=some (.int .u64 (l0:Int)):=(hno.cell 0).trans rfl
  have q1:wr.cell? ⟨g8,1,none⟩=some (.int .u64 (l1:Int)):=(hno.cell 1).trans rfl
  have q2:wr.cell? ⟨g8,2,none⟩=some (.int .u64 (l2:Int)):=(hno.cell 2).trans rfl
  have q3:wr.cell? ⟨g8,3,none⟩=some (.int .u64 (l3:Int)):=(hno.cell 3).trans rfl
  have q4:wr.cell? ⟨g8,4,none⟩=some (.int .u64 (l4:Int)):=(hno.cell 4).trans rfl
  have q5:wr.cell? ⟨g8,5,none⟩=some (.int .u64 (l5:Int)):=(hno.cell 5).trans rfl
  have q6:wr.cell? ⟨g8,6,none⟩=some (.int .u64 (l6:Int)):=(hno.cell 6).trans rfl
  have q7:wr.cell? ⟨g8,7,none⟩=some (.int .u64 (l7:Int)):=(hno.cell 7).trans rfl
  go_upto_if 29 with fail
  clear ho
  by_cases h0:o=0
  ·have HZ:=Lib.hid (HK0.out (HH.out.1 (HOZ.out.1 h0)))
   have e0:((o:Int) != 0)=false:=by subst h0;rfl
   rw [e0]
   have hnp:=hn.p
   have hnr:=hn.r
   have hfr:=hn.fr
   generalize hze:P % pP=z at *
   have HZE:=Lib.hid hze
   clear hze
   go_wp2_with (first|(refine num_load rfl _ rfl g7 pP rfl hnp ?_)|(go_at_call 167;(with_reducible refine (HZ.out _).mono ?_);rintro e w9 ⟨rfl,f9⟩;have b9:=f9.blk hnr (fun e=>e))|(refine num_store rfl _ _ rfl (w.heap.size+2) z rfl rfl _ b9 rfl ?_))
   exact bodyPost_ret (num_back 6 rfl _ _ (w.heap.size+2) z rfl (b9.setRow _)) rfl ⟨by rw [HZE.out],(hfr.trans f9).setRow _ _ (Or.inl (by omega))⟩
  ·have HE:=Lib.hid (HEND.out (by have:=HH.out;have:=HOZ.out;omega))
   have e0:((o:Int) != 0)=true:=by simp;omega
   rw [e0]
   clear HEND HK0 HOZ HH
   have g7c:=hn.p
   rw [p_words] at g7c
   have HSS:Hid (∀ u,Fr NoB wr u→(fun w'=>w'.cell? ⟨g8,4,none⟩=some (.int .u64 (l4:Int))∧w'.cell? ⟨g8,5,none⟩=some (.int .u64 (l5:Int))∧w'.cell? ⟨g8,6,none⟩=some (.int .u64 (l6:Int))∧w'.cell? ⟨g8,7,none⟩=some (.int .u64 (l7:Int))∧w'.cell? ⟨g7,0,none⟩=some (.int .u64 18446744073709551615)∧w'.cell? ⟨g7,1,none⟩=some (.int .u64 4294967295)∧w'.cell? ⟨g7,2,none⟩=some (.int .u64 0)∧w'.cell? ⟨g7,3,none⟩=some (.int .u64 18446744069414584321)) u):=Lib.hid (fun u fu=>⟨fu.cellOf q4,fu.cellOf q5,fu.cellOf q6,fu.cellOf q7,fu.cellOf ((g7c.cell 0).trans rfl),fu.cellOf ((g7c.cell 1).trans rfl),fu.cellOf ((g7c.cell 2).trans rfl),fu.cellOf ((g7c.cell 3).trans rfl)⟩)
   have HN:=Lib.hid hn
   clear hn hno q0 q1 q2 q3 q4 q5 q6 q7 g7c
   obtain ⟨r0,r1,r2,r3,r4,r5,r6,r7⟩:=HSS.out wr (Fr.refl _ _)
   go_upto_region 4 with fail
   go_cut [9] (fun v9 wx=>∃ g9,v9=.pointer (some ⟨g9,0,none⟩)∧wr.heap.size≤g9∧Blk wx g9 225 (u64C [x0,x1,x2,x3,x4,x5,x6,x7])∧Fr NoB wr wx)
   case first=>
    go_region_held3 (fun w'=>w'.cell? ⟨g8,4,none⟩=some (.int .u64 (l4:Int))∧w'.cell? ⟨g8,5,none⟩=some (.int .u64 (l5:Int))∧w'.cell? ⟨g8,6,none⟩=some (.int .u64 (l6:Int))∧w'.cell? ⟨g8,7,none⟩=some (.int .u64 (l7:Int))∧w'.cell? ⟨g7,0,none⟩=some (.int .u64 18446744073709551615)∧w'.cell? ⟨g7,1,none⟩=some (.int .u64 4294967295)∧w'.cell? ⟨g7,2,none⟩=some (.int .u64 0)∧w'.cell? ⟨g7,3,none⟩=some (.int .u64 18446744069414584321)) (first|(with_reducible exact HSS.out _ (set8_fr t2 (Nat.le_refl _)))|(with_reducible exact HSS.out _ (set8_fr t2 t1.size))|(with_reducible exact HSS.out _ (set8_fr (t2.alloc _) t2.size))|(with_reducible exact HSS.out _ (t2.alloc _))|(with_reducible exact HSS.out _ t2)|(with_reducible exact HSS.out _ (t1.alloc _))|(with_reducible exact HSS.out _ t1)|(with_reducible exact HSS.out _ ((Fr.refl NoB wr).drew.alloc _))|(with_reducible exact HSS.out _ (((Fr.refl NoB wr).alloc _).drew))|go_keep) (first|(go_at_call 237;(with_reducible refine (K1.out _).mono ?_);rintro e v1 ⟨rfl,t1'⟩;(first|(have t1:Fr NoB wr v1:=(Fr.refl NoB wr).drew.trans t1')|(have t1:Fr NoB wr v1:=((Fr.refl NoB wr).drew.alloc _).trans t1';have n1:Blk v1 wr.heap.size 225 z8l:=t1'.blk (Blk.new wr.drew 225 z8l) (fun e=>e))|(have t1:Fr NoB wr v1:=(((Fr.refl NoB wr).alloc _).drew).trans t1';have n1:Blk v1 wr.heap.size 225 z8l:=t1'.blk (Blk.new wr 225 z8l).drew (fun e=>e))))|(go_at_call 236;(with_reducible refine (K2.out _).mono ?_);rintro e v2 ⟨rfl,t2'⟩;(first|(have t2:Fr NoB wr v2:=t1.trans t2';try (have n2:Blk v2 wr.heap.size 225 z8l:=t2'.blk n1 (fun e=>e)))|(have t2:Fr NoB wr v2:=(t1.alloc _).trans t2';have n2:Blk v2 v1.heap.size 225 z8l:=t2'.blk (Blk.new v1 225 z8l) (fun e=>e)));try (have y0:=(n2.cell 0).trans (show _=some (.int .u64 0) from rfl);have y1:=(n2.cell 1).trans (show _=some (.int .u64 0) from rfl);have y2:=(n2.cell 2).trans (show _=some (.int .u64 0) from rfl);have y3:=(n2.cell 3).trans (show _=some (.int .u64 0) from rfl);have y4:=(n2.cell 4).trans (show _=some (.int .u64 0) from rfl);have y5:=(n2.cell 5).trans (show _=some (.int .u64 0) from rfl);have y6:=(n2.cell 6).trans (show _=some (.int .u64 0) from rfl);have y7:=(n2.cell 7).trans (show _=some (.int .u64 0) from rfl);have z0:=n2.frozen 0;have z1:=n2.frozen 1;have z2:=n2.frozen 2;have z3:=n2.frozen 3;have z4':=n2.frozen 4;have z5:=n2.frozen 5;have z6:=n2.frozen 6;have z7:=n2.frozen 7)))
    all_goals (go_wp2_with fail;go_meet;first|exact ⟨_,rfl,t2.size,Blk.new _ _ _,t2.alloc _⟩|exact ⟨_,rfl,Nat.le_refl _,set8_row n2,set8_fr t2 (Nat.le_refl _)⟩|exact ⟨_,rfl,t1.size,set8_row n2,set8_fr t2 t1.size⟩)
   case rest=>
   obtain ⟨g9,rfl,hg9,hx9,hf9⟩:=hcut
   have hn2:=HN.out.noB hf9
   have hg89:g8<g9:=Nat.lt_of_lt_of_le HN.out.o.lt hg9
   have HX8:=Lib.hid (mix_end x0 x1 x2 x3 x4 x5 x6 x7 l0 l1 l2 l3 l4 l5 l6 l7)
   have HXI:=Lib.hid (mix_at x0 x1 x2 x3 x4 x5 x6 x7 l0 l1 l2 l3 l4 l5 l6 l7)
   have HXL:=Lib.hid (fun i (hi:i≤8)=>Nat.le_trans (Nat.le_of_eq (mix_low x0 x1 x2 x3 x4 x5 x6 x7 l0 l1 l2 l3 l4 l5 l6 l7 i hi)) (HLOW.out i))
   have hXl:[x0,x1,x2,x3,x4,x5,x6,x7].length=8:=rfl
   have hLl:[l0,l1,l2,l3,l4,l5,l6,l7].length=8:=rfl
   clear HSS r0 r1 r2 r3 r4 r5 r6 r7 HN hf9 hg9 HLOW K1 K2 e0 h0
   generalize [x0,x1,x2,x3,x4,x5,x6,x7]=X at *
   generalize [l0,l1,l2,l3,l4,l5,l6,l7]=L at *
   go_wp2_with fail
   go_loopw [42,10] (fun v v10 wr=>∃ i:Nat,i≤8∧v=.int .i64 i∧v10=.int .u64 ((mixW X L i).2:Nat)∧NT w g7 g8 (mixW X L i).1 wr∧Blk wr g9 225 (u64C X)) (fun v _ _=>8 - (intOf v).toNat)
   case atStart=>exact ⟨0,by omega,rfl,rfl,hn2,hx9⟩
   case round=>
    clear hn2 hx9
    obtain ⟨i,hi,rfl,rfl,hn,hx⟩:=hrel
    have hml:=mix_len X L i
    by_cases hlt:i<8
    ·have k1:(i:Int)<8:=by omega
     have k0:(0:Int)≤i:=by omega
     have hlow:=HXL.out i (by omega)
     have hat:=HXI.out i hlt
     have HT:Hid (mixW X L (i+1)=((mixW X L i).1.set i ((X.getD i 0+(if i<4 then L.getD i 0 else 0)+(mixW X L i).2) % 18446744073709551616),(X.getD i 0+(if i<4 then L.getD i 0 else 0)+(mixW X L i).2) / 18446744073709551616)):=Lib.hid rfl
     have y0:wr.cell? ⟨g8,i,none⟩=some (.int .u64 ((mixW X L i).1.getD i 0:Nat)):=by rw [hn.o.cell,u64C_get (by omega)]
     have y1:wr.cell? ⟨g9,i,none⟩=some (.int .u64 (X.getD i 0:Nat)):=by rw [hx.cell,u64C_get (by omega)]
     have y2:wr.frozen? ⟨g8,i,none⟩=false:=hn.o.frozen i
     rw [hat] at y0
     have HN:=Lib.hid hn
     have HXX:=Lib.hid hx
     clear hn hx hat hml
     generalize mixW X L i=p at *
     obtain ⟨Q,c⟩:=p
     dsimp only at *
     by_cases h4:i<4
     ·have j1:(i:Int)<4:=by omega
      rw [if_pos h4] at HT
      have hadd:=add64_run (X.getD i 0) (L.getD i 0) c hlow
      generalize X.getD i 0=xa at *
      generalize L.getD i 0=xb at *
      generalize (xa+xb+c) % 18446744073709551616=d at *
      generalize (xa+xb+c) / 18446744073709551616=c' at *
      go_wp2_with fail
      go_roundw
      case rel=>exact ⟨i+1,by omega,by simp,by rw [HT.out],by rw [HT.out];exact HN.out.set i d,HXX.out.far (p:=⟨g8,i,none⟩) (show g9≠g8 by omega) _⟩
      case measure=>simp [intOf];omega
     ·have j1:¬ (i:Int)<4:=by omega
      rw [if_neg h4] at HT
      have hadd:∀ u,(callFunc 238 #[.int .u64 (X.getD i 0:Nat),.int .u64 0,.int .u64 (c:Int)]).run Tryz.prog u=.ok (.value (.tuple #[.int .u64 (((X.getD i 0+0+c) % 18446744073709551616:Nat):Int),.int .u64 (((X.getD i 0+0+c) / 18446744073709551616:Nat):Int)])) u:=fun u=>add64_run (X.getD i 0) 0 c hlow u
      generalize X.getD i 0=xa at *
      generalize (xa+0+c) % 18446744073709551616=d at *
      generalize (xa+0+c) / 18446744073709551616=c' at *
      go_wp2_with fail
      go_roundw
      case rel=>exact ⟨i+1,by omega,by simp,by rw [HT.out],by rw [HT.out];exact HN.out.set i d,HXX.out.far (p:=⟨g8,i,none⟩) (show g9≠g8 by omega) _⟩
      case measure=>simp [intOf];omega
    ·have hi8:i=8:=by omega
     have k1:¬ (i:Int)<8:=by omega
     rw [hi8,HX8.out] at hn
     clear hi8 hlt hi hml
     go_wp2_with fail
     go_roundw
     case rel=>exact ⟨_,hsl,HE.out.2.2,HE.out.2.1,hn⟩
     case measure=>
      rw [cellsN_of hsl hn.o]
      exact HE.out.1
theorem mul_any (n m:Nat) (w:World) (hn:n<115792089237316195423570985008687907853269984665640564039457584007913129639936) (hm:m<115792089237316195423570985008687907853269984665640564039457584007913129639936) :
  Calls Tryz.prog 166 #[.agg (numC n),.agg (numC m)] w fun e w'=>e=.returned (.agg (numC (n*m % pP)))∧Fr NoB w w':=by
 have HO:=Lib.hid (fun u=>times_any n m u hn hm)
 generalize n*m % pP=x at *
 have hn0:=NL.start w (wds 4 n) (wds 4 m)
 go_enter Tryz.func166,Tryz.ntmps166
 go_upto_region 1 with fail
 generalize ((w.alloc (.cells (numC n) 176)).alloc (.cells (numC m) 176)).alloc (.cells z4 176)=W at *
 have b0:Blk W w.heap.size 176 (numC n):=hn0.a
 have b1:Blk W (w.heap.size+1) 176 (numC m):=hn0.b
 have b2:Blk W (w.heap.size+2) 176 z4:=hn0.r
 have f0:=hn0.fr
 clear hn0 hn hm
 go_wp2_with (first|(refine num_load rfl _ rfl w.heap.size n rfl b0 ?_)|(refine num_load rfl _ rfl (w.heap.size+1) m rfl b1 ?_)|(go_at_call 200;(with_reducible refine (HO.out _).mono ?_);rintro e w1 ⟨rfl,f1⟩;have b3:=f1.blk b2 (fun e=>e))|(refine num_store rfl _ _ rfl (w.heap.size+2) x rfl rfl _ b3 rfl ?_))
 exact bodyPost_ret (num_back 4 rfl _ _ (w.heap.size+2) x rfl (b3.setRow _)) rfl ⟨rfl,(f0.trans f1).setRow _ _ (Or.inl (by omega))⟩
theorem add_any (n m:Nat) (w:World) (hn:n<115792089237316195423570985008687907853269984665640564039457584007913129639936) (hm:m<115792089237316195423570985008687907853269984665640564039457584007913129639936) :
  Calls Tryz.prog 164 #[.agg (numC n),.agg (numC m)] w fun e w'=>e=.returned (.agg (numC ((n+m) % pP)))∧Fr NoB w w':=by
 have HO:=Lib.hid (fun u=>plus_any n m u hn hm)
 generalize (n+m) % pP=x at *
 have hn0:=NL.start w (wds 4 n) (wds 4 m)
 go_enter Tryz.func164,Tryz.ntmps164
 go_upto_region 1 with fail
 generalize ((w.alloc (.cells (numC n) 176)).alloc (.cells (numC m) 176)).alloc (.cells z4 176)=W at *
 have b0:Blk W w.heap.size 176 (numC n):=hn0.a
 have b1:Blk W (w.heap.size+1) 176 (numC m):=hn0.b
 have b2:Blk W (w.heap.size+2) 176 z4:=hn0.r
 have f0:=hn0.fr
 clear hn0 hn hm
 go_wp2_with (first|(refine num_load rfl _ rfl w.heap.size n rfl b0 ?_)|(refine num_load rfl _ rfl (w.heap.size+1) m rfl b1 ?_)|(go_at_call 198;(with_reducible refine (HO.out _).mono ?_);rintro e w1 ⟨rfl,f1⟩;have b3:=f1.blk b2 (fun e=>e))|(refine num_store rfl _ _ rfl (w.heap.size+2) x rfl rfl _ b3 rfl ?_))
 exact bodyPost_ret (num_back 4 rfl _ _ (w.heap.size+2) x rfl (b3.setRow _)) rfl ⟨rfl,(f0.trans f1).setRow _ _ (Or.inl (by omega))⟩
theorem sub_any (n m:Nat) (w:World) (hn:n<115792089237316195423570985008687907853269984665640564039457584007913129639936) (hm:m<115792089237316195423570985008687907853269984665640564039457584007913129639936) :
  Calls Tryz.prog 165 #[.agg (numC n),.agg (numC m)] w fun e w'=>e=.returned (.agg (numC ((n+(pP - m % pP) % pP) % pP)))∧Fr NoB w w':=by
 have HO:=Lib.hid (fun u=>minus_any n m u hn hm)
 generalize (n+(pP - m % pP) % pP) % pP=x at *
 have hn0:=NL.start w (wds 4 n) (wds 4 m)
 go_enter Tryz.func165,Tryz.ntmps165
 go_upto_region 1 with fail
 generalize ((w.alloc (.cells (numC n) 176)).alloc (.cells (numC m) 176)).alloc (.cells z4 176)=W at *
 have b0:Blk W w.heap.size 176 (numC n):=hn0.a
 have b1:Blk W (w.heap.size+1) 176 (numC m):=hn0.b
 have b2:Blk W (w.heap.size+2) 176 z4:=hn0.r
 have f0:=hn0.fr
 clear hn0 hn hm
 go_wp2_with (first|(refine num_load rfl _ rfl w.heap.size n rfl b0 ?_)|(refine num_load rfl _ rfl (w.heap.size+1) m rfl b1 ?_)|(go_at_call 199;(with_reducible refine (HO.out _).mono ?_);rintro e w1 ⟨rfl,f1⟩;have b3:=f1.blk b2 (fun e=>e))|(refine num_store rfl _ _ rfl (w.heap.size+2) x rfl rfl _ b3 rfl ?_))
 exact bodyPost_ret (num_back 4 rfl _ _ (w.heap.size+2) x rfl (b3.setRow _)) rfl ⟨rfl,(f0.trans f1).setRow _ _ (Or.inl (by omega))⟩
structure NN (w:World) (L:List Nat) (u:World):Prop where
 r:Blk u w.heap.size 176 z4
 a:Blk u (w.heap.size+1) 176 (u64C L)
 fr:Fr NoB w u
theorem NN.start (w:World):NN w [0,0,0,0] ((w.alloc (.cells z4 176)).alloc (.cells z4 176)):=by
 refine ⟨(Blk.new w _ _).alloc _,?_,((Fr.refl _ _).alloc _).alloc _⟩
 have:=Blk.new (w.alloc (.cells z4 176)) 176 z4
 have h3:(w.alloc (.cells z4 176)).heap.size=w.heap.size+1:=by simp
 rw [h3] at this
 exact this
theorem NN.noB {w u u':World} {L:List Nat} (h:NN w L u) (f:Fr NoB u u'):NN w L u':=⟨f.blk h.r (fun e=>e),f.blk h.a (fun e=>e),h.fr.trans f⟩
theorem NN.set {w u:World} {L:List Nat} (h:NN w L u) (i x:Nat):NN w (L.set i x) (u.setCell ⟨w.heap.size+1,i,none⟩ (.int .u64 (x:Int))):=by
 have f:Fr (Only (w.heap.size+1)) u (u.setCell ⟨w.heap.size+1,i,none⟩ (.int .u64 (x:Int))):=(Fr.refl _ _).only _
 have:=h.a.set_ i (.int .u64 (x:Int))
 rw [u64C_set] at this
 exact ⟨f.blk h.r (fun (e:w.heap.size=w.heap.size+1)=>by omega),this,h.fr.setCell_new (p:=⟨w.heap.size+1,i,none⟩) (by simp) _⟩
theorem set_zero (s:Bs) (i:Nat) (h:i<4):(wordsN s i).set (3 - i) 0=wordsN s i:=by
 have h0:=wordsN_at s i h
 have hl:=wordsN_len s i
 have h2:3 - i<(wordsN s i).length:=by omega
 have h3:=List.set_getElem_self h2
 rw [List.getD_eq_getElem?_getD,List.getElem?_eq_getElem h2] at h0
 have h4:(wordsN s i)[3 - i]=0:=h0
 rwa [h4] at h3
theorem fr_conv (w:World) (s:ByteArray):Fr NoB w (Lib.bytesWorld w 5 s):=
 ⟨rfl,rfl,rfl,by rw [Lib.bytesWorld_size];omega,fun k hk _=>Lib.bytesWorld_at_old w _ s k hk⟩
theorem number_any (s:Bs) (w:World) (hs:s.length=32) :
  Calls Tryz.prog 163 #[.string ⟨s.toArray⟩] w fun e w'=>e=.returned (.agg (numC (natB s)))∧Fr NoB w w':=by
 have HF:=Lib.hid (wordsN_four hs)
 go_enter Tryz.func163,Tryz.ntmps163
 go_upto_region 2 with fail
 have hn0:=NN.start w
 generalize (w.alloc (.cells z4 176)).alloc (.cells z4 176)=W at *
 go_wp2_with fail
 go_loopw [7] (fun v wr=>∃ i:Nat,i≤4∧v=.int .i64 i∧NN w (wordsN s i) wr) (fun v _=>4 - (intOf v).toNat)
 case atStart=>exact ⟨0,by omega,rfl,hn0⟩
 case round=>
  clear hn0
  obtain ⟨i,hi,rfl,hn⟩:=hrel
  have hwl:=wordsN_len s i
  by_cases hlt:i<4
  ·have k1:(i:Int)<4:=by omega
   have k0:(0:Int)≤i:=by omega
   have hz:(⟨s.toArray⟩:ByteArray).size=32:=by show s.toArray.size=_;simpa using hs
   have e0:(0:Int)≤8*(i:Int):=by omega
   have e1:(8:Int)*(i:Int)+8≤32:=by omega
   have e2:(8:Int)*(i:Int)≤8*(i:Int)+8:=by omega
   have e3:((8:Int)*(i:Int)).toNat=8*i:=by omega
   have e4:((8:Int)*(i:Int)+8).toNat=8*i+8:=by omega
   have hex:(⟨s.toArray⟩:ByteArray).extract (8*i) (8*i+8)=⟨((s.drop (8*i)).take 8).toArray⟩:=by
    have:=ByteArray.ext_iff.2 (show ((⟨s.toArray⟩:ByteArray).extract (8*i) (8*i+8)).data=(⟨((s.drop (8*i)).take 8).toArray⟩:ByteArray).data by
     rw [ByteArray.data_extract]
     apply Array.ext'
     simp [List.take_drop])
    exact this
   have h8l:((s.drop (8*i)).take 8).length=8:=by rw [List.length_take,List.length_drop];omega
   have hcv:=fun w=>Lib.run_convert_string_bytes (P:=Tryz.prog) w 9 81 5 ⟨((s.drop (8*i)).take 8).toArray⟩ Tryz.underlying9 Tryz.underlying81 Tryz.underlying5
   have hz8:(⟨((s.drop (8*i)).take 8).toArray⟩:ByteArray).size=8:=by show ((s.drop (8*i)).take 8).toArray.size=_;simpa using h8l
   rw [hz8] at hcv
   go_upto_block 2 with fail
   have f2:=fr_conv wr ⟨((s.drop (8*i)).take 8).toArray⟩
   have hcell:∀ m,m<8→(Lib.bytesWorld wr 5 ⟨((s.drop (8*i)).take 8).toArray⟩).cell? ⟨wr.heap.size,m,none⟩=some (.int .u8 ((s.getD (8*i+m) 0).toNat:Int)):=fun m hm=>by
    rw [Lib.bytesWorld_cell wr _ _ m (by rw [hz8];exact hm)]
    congr 3
    show ((((s.drop (8*i)).take 8).toArray).toList.getD m 0).toNat=_
    rw [List.toList_toArray,List.getD_eq_getElem?_getD,List.getElem?_take_of_lt hm,List.getElem?_drop,← List.getD_eq_getElem?_getD]
   have hW2:wr.heap.size<(Lib.bytesWorld wr 5 ⟨((s.drop (8*i)).take 8).toArray⟩).heap.size:=by rw [Lib.bytesWorld_size];omega
   have hn1:=hn.noB f2
   clear hcv hz8 h8l hex f2
   generalize Lib.bytesWorld wr 5 ⟨((s.drop (8*i)).take 8).toArray⟩=W1 at *
   have HC:=Lib.hid hcell
   have hgs:w.heap.size+1<wr.heap.size:=hn.a.lt
   clear hcell hn
   generalize wr.heap.size=gb at *
   go_wp2_with fail
   go_loopw [19] (fun v wr=>∃ m:Nat,m≤8∧v=.int .i64 m∧NN w ((wordsN s i).set (3 - i) (wordN s i m)) wr∧Fr (Only (w.heap.size+1)) W1 wr) (fun v _=>8 - (intOf v).toNat)
   case atStart=>exact ⟨0,by omega,rfl,by rw [show wordN s i 0=0 from by simp [wordN,natB]];rw [set_zero s i hlt];exact hn1,Fr.refl _ _⟩
   case round=>
    clear hn1
    obtain ⟨m,hm,rfl,hn,hf⟩:=hrel
    by_cases hmt:m<8
    ·have p1:(m:Int)<8:=by omega
     have p0:(0:Int)≤m:=by omega
     have cB:=(hf.cell (p:=⟨gb,m,none⟩) hW2 (fun (e:gb=w.heap.size+1)=>by omega)).trans (HC.out m hmt)
     have s1:(3:Int) - (i:Int)=((3 - i:Nat):Int):=by omega
     have s2:((3 - i:Nat):Int)<4:=by omega
     have s3:(0:Int)≤((3 - i:Nat):Int):=by omega
     have s4:IntKind.i64.wrap ((3 - i:Nat):Int)=((3 - i:Nat):Int):=IntWalk.i64_in _ (by omega)
     have cW:wr.cell? ⟨w.heap.size+1,3 - i,none⟩=some (.int .u64 (wordN s i m:Nat)):=by
      rw [hn.a.cell,u64C_get (by rw [List.length_set,hwl];omega),List.getD_eq_getElem?_getD,List.getElem?_set_self (by rw [hwl];omega)];rfl
     have zW:wr.frozen? ⟨w.heap.size+1,3 - i,none⟩=false:=hn.a.frozen _
     have HX:Hid (bits .or .u64 (IntKind.u64.wrap ((wordN s i m:Int)*256)) (IntKind.u64.wrap ((s.getD (8*i+m) 0).toNat:Int))=(wordN s i (m+1):Int)):=Lib.hid (by
      have h8:=(s.getD (8*i+m) 0).toNat_lt
      rw [IntKind.wrap_u64,IntKind.wrap_u64,show ((s.getD (8*i+m) 0).toNat:Int) % 18446744073709551616=((s.getD (8*i+m) 0).toNat:Int) by omega]
      exact wordN_or (s:=s) (i:=i) (m:=m) (by omega) hmt)
     have HNX:=Lib.hid (hn.set (3 - i) (wordN s i (m+1)))
     have hfo:Fr (Only (w.heap.size+1)) W1 (wr.setCell ⟨w.heap.size+1,3 - i,none⟩ (.int .u64 (wordN s i (m+1):Int))):=hf.only _
     have HFO:=Lib.hid hfo
     generalize hx1:wordN s i (m+1)=x' at *
     have HX1:=Lib.hid hx1
     clear hx1 hfo hn
     generalize wordN s i m=x at *
     generalize (s.getD (8*i+m) 0).toNat=b8 at *
     generalize 3 - i=q at *
     go_wp2_with fail
     rw [HX.out]
     go_roundw
     case rel=>exact ⟨m+1,by omega,by simp,by have:=HNX.out;rw [List.set_set] at this;rw [HX1.out];exact this,HFO.out⟩
     case measure=>simp [intOf];omega
    ·have hm8:m=8:=by omega
     have p1:¬ (m:Int)<8:=by omega
     rw [hm8] at hn
     clear hm8 hmt hm
     go_wp2_with fail
     go_roundw
     case rel=>exact ⟨i+1,by omega,by simp,hn⟩
     case measure=>simp [intOf];omega
  ·have hi4:i=4:=by omega
   have k1:¬ (i:Int)<4:=by omega
   rw [hi4,HF.out] at hn
   have hna:Blk wr (w.heap.size+1) 176 (numC (natB s)):=hn.a
   have hnr:=hn.r
   have hfr:=hn.fr
   clear hi4 hlt hi hwl HF hn
   generalize hxe:natB s=x at *
   have HXE:=Lib.hid hxe
   clear hxe
   go_wp2_with (first|(refine num_load rfl _ rfl (w.heap.size+1) x rfl hna ?_)|(refine num_store rfl _ _ rfl w.heap.size x rfl rfl _ hnr rfl ?_))
   exact bodyPost_ret (num_back 2 rfl _ _ w.heap.size x rfl (hnr.setRow _)) rfl ⟨by rw [HXE.out],hfr.setRow _ _ (Or.inl (Nat.le_refl _))⟩
end Go.Proofs.YtbifjamddbpcjaaGreatDoor
