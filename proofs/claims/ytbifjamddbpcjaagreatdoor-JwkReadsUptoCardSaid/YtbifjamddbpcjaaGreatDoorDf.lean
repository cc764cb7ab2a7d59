/- The document's check of an RSA key. (Printed by gen_r4.py.) -/
import Derived.Test.YtbifjamddbpcjaaGreatDoorDb
import Derived.Test.YtbifjamddbpcjaaGreatDoorEv
import Derived.Test.YtbifjamddbpcjaaGreatDoorYd
namespace Go.Proofs.YtbifjamddbpcjaaGreatDoor
set_option maxRecDepth 100000
set_option maxHeartbeats 25600000
open Go.RowKit
def bitsN (v:Nat):Nat:=if v=0 then 0 else Nat.log2 v+1
theorem bitsN_is (v:Nat):IsBits v (bitsN v):=by
 unfold bitsN
 by_cases h:v=0
 ·rw [if_pos h,h];exact ⟨by decide,fun h=>absurd rfl h⟩
 ·rw [if_neg h]
  exact ⟨Nat.lt_log2_self,fun _=>by rw [Nat.add_sub_cancel];exact Nat.log2_self_le h⟩
theorem num_three (u:World):Num .u64 (u.alloc (.cells #[.int .u64 3] 113)) (.slice (some ⟨u.heap.size,0,none⟩) 1 1) [3]:=
 Num.of_blk (l:=[3]) (c:=1) (Blk.new u 113 #[.int .u64 3]) (fun x hx=>by simp at hx;omega) (by simp) (Nat.le_refl _)
theorem top_three:Top [3]:=fun n hn=>by
 have:n=0:=by simpa using hn.symm
 subst this;decide
theorem d4check_any (n e:Bs) (w:World) (hn:n.length≤33554432) (he:e.length≤33554432) :
  Calls Tryz.prog 38 #[.agg #[.string ⟨n.toArray⟩,.string ⟨e.toArray⟩]] w fun r w'=>r=.returned (.bool (rsaP n e))∧Fr NoB w w':=by
 have KN:=Lib.hid (fun u=>d3of_any n u hn)
 have KE:=Lib.hid (fun u=>d3of_any e u he)
 obtain ⟨res,hres⟩:∃ r,r=rsaP n e:=⟨_,rfl⟩
 rw [← hres]
 have HRS0:=rsa_is n e _ _ (bitsN_is (natB n)) (bitsN_is (natB e))
 rw [← hres] at HRS0
 have HRS:=Lib.hid HRS0
 clear hres HRS0
 have b0:=Blk.new w 23 #[.string ⟨n.toArray⟩,.string ⟨e.toArray⟩]
 have f0:Fr NoB w (w.alloc (.cells #[.string ⟨n.toArray⟩,.string ⟨e.toArray⟩] 23)):=(Fr.refl _ _).alloc _
 go_enter Tryz.func38,Tryz.ntmps38
 go_upto_region 1 with fail
 generalize w.alloc (.cells #[.string ⟨n.toArray⟩,.string ⟨e.toArray⟩] 23)=W at *
 have q0:W.cell? ⟨w.heap.size,0,none⟩=some (.string ⟨n.toArray⟩):=(b0.cell 0).trans rfl
 have q1:W.cell? ⟨w.heap.size,1,none⟩=some (.string ⟨e.toArray⟩):=(b0.cell 1).trans rfl
 have HSS:Hid (∀ u,Fr NoB W u→(fun w'=>w'.cell? ⟨w.heap.size,0,none⟩=some (.string ⟨n.toArray⟩)∧w'.cell? ⟨w.heap.size,1,none⟩=some (.string ⟨e.toArray⟩)) u):=Lib.hid (fun u fu=>⟨fu.celK q0,fu.celK q1⟩)
 clear b0
 go_region_held3 (fun w'=>w'.cell? ⟨w.heap.size,0,none⟩=some (.string ⟨n.toArray⟩)∧w'.cell? ⟨w.heap.size,1,none⟩=some (.string ⟨e.toArray⟩)) (first|(with_reducible exact HSS.out _ t2)|(with_reducible exact HSS.out _ t1)|go_keep) (first|(go_at_call 71;(with_reducible refine (KN.out _).mono ?_);rintro er v1 ⟨vn,ln,rfl,hn1,hn2,hn3,t1'⟩;(with_reducible have t1:Fr NoB W v1:=(Fr.refl NoB W).drew.trans t1'))|(go_at_call 71;(with_reducible refine (KE.out _).mono ?_);rintro er v2 ⟨ve,le,rfl,he1,he2,he3,t2'⟩;(with_reducible have t2:Fr NoB W v2:=t1.trans t2')))
 have f:=f0.trans t2
 have hnn:=hn1.fr t2'
 have HSS2:Hid (∀ u,Fr NoB v2 u→(fun w'=>w'.cell? ⟨w.heap.size,0,none⟩=some (.string ⟨n.toArray⟩)∧w'.cell? ⟨w.heap.size,1,none⟩=some (.string ⟨e.toArray⟩)) u):=Lib.hid (fun u fu=>HSS.out u (t2.trans fu))
 have KF1:Hid (∀ u,Fr NoB v2 u→Calls Tryz.prog 72 #[vn] u fun r w'=>∃ f:Bs,r=.returned (.string ⟨f.toArray⟩)∧(f==n)=leadB n∧Fr NoB u w'):=Lib.hid (fun u fu=>by
  refine (d3form_any ln vn u (hnn.fr fu) hn2).mono ?_
  rintro r w' ⟨f,rfl,h1,h2,h3⟩
  exact ⟨f,rfl,form_eq h1 (h2.trans hn3),h3⟩)
 have KF2:Hid (∀ u,Fr NoB v2 u→Calls Tryz.prog 72 #[ve] u fun r w'=>∃ f:Bs,r=.returned (.string ⟨f.toArray⟩)∧(f==e)=leadB e∧Fr NoB u w'):=Lib.hid (fun u fu=>by
  refine (d3form_any le ve u (he1.fr fu) he2).mono ?_
  rintro r w' ⟨f,rfl,h1,h2,h3⟩
  exact ⟨f,rfl,form_eq h1 (h2.trans he3),h3⟩)
 have KB1:Hid (∀ u,Fr NoB v2 u→Calls Tryz.prog 73 #[vn,.int .i64 0] u fun r w'=>r=.returned (dV .u64 (natB n % 2))∧w'=u):=Lib.hid (fun u fu=>by
  have:=d3bit_any ln vn 0 u (hnn.fr fu) (by omega)
  rw [hn3,Nat.pow_zero,Nat.div_one] at this
  exact this)
 have KB2:Hid (∀ u,Fr NoB v2 u→Calls Tryz.prog 73 #[ve,.int .i64 0] u fun r w'=>r=.returned (dV .u64 (natB e % 2))∧w'=u):=Lib.hid (fun u fu=>by
  have:=d3bit_any le ve 0 u (he1.fr fu) (by omega)
  rw [he3,Nat.pow_zero,Nat.div_one] at this
  exact this)
 have KL1:Hid (∀ u,Fr NoB v2 u→Calls Tryz.prog 74 #[vn] u fun r w'=>r=.returned (.int .i64 (bitsN (natB n):Nat))∧w'=u):=Lib.hid (fun u fu=>by
  refine (d3bits_any ln vn u (hnn.fr fu)).mono ?_
  rintro r w' ⟨m,rfl,h1,h2⟩
  rw [hn3] at h1
  exact ⟨by rw [h1.uniq (bitsN_is _)],h2⟩)
 have KL2:Hid (∀ u,Fr NoB v2 u→Calls Tryz.prog 74 #[ve] u fun r w'=>r=.returned (.int .i64 (bitsN (natB e):Nat))∧w'=u):=Lib.hid (fun u fu=>by
  refine (d3bits_any le ve u (he1.fr fu)).mono ?_
  rintro r w' ⟨m,rfl,h1,h2⟩
  rw [he3] at h1
  exact ⟨by rw [h1.uniq (bitsN_is _)],h2⟩)
 have KC:Hid (∀ u,Fr NoB v2 u→Calls Tryz.prog 75 #[ve,.slice (some ⟨u.heap.size,0,none⟩) 1 1] (u.alloc (.cells #[.int .u64 3] 113)) fun r w'=>r=.returned (.int .i64 (cmpN (natB e) 3))∧Fr NoB u w'):=Lib.hid (fun u fu=>by
  have fa:Fr NoB u (u.alloc (.cells #[.int .u64 3] 113)):=(Fr.refl _ _).alloc _
  have:=d3cmp_any le [3] ve _ _ (he1.fr (fu.trans fa)) (num_three u) he2 top_three
  rw [he3,show val16 [3]=3 from rfl] at this
  refine this.mono ?_
  rintro r w' ⟨rfl,h2⟩
  exact ⟨rfl,fa.trans h2⟩)
 have HC3:Hid (decide (3≤natB e)=decide (0≤cmpN (natB e) 3)):=Lib.hid (by rw [Bool.eq_iff_iff];simp [cmp_ge])
 rw [HC3.out] at HRS
 obtain ⟨pn,hpn⟩:∃ x,x=natB n % 2:=⟨_,rfl⟩
 obtain ⟨pe,hpe⟩:∃ x,x=natB e % 2:=⟨_,rfl⟩
 have hpn2:pn<2:=by omega
 have hpe2:pe<2:=by omega
 rw [← hpn] at KB1 HRS
 rw [← hpe] at KB2 HRS
 clear hpn hpe HC3 KN KE HSS q0 q1 hn1 hn2 hn3 he1 he2 he3 hnn t1 t1' t2' t2 f0
 generalize leadB n=b1 at *
 generalize leadB e=b2 at *
 generalize bitsN (natB n)=nb at *
 generalize bitsN (natB e)=eb at *
 generalize cmpN (natB e) 3=z at *
 go_upto_region 2 with fail
 refine wp_region_held_drew (S:=(fun w'=>w'.cell? ⟨w.heap.size,0,none⟩=some (.string ⟨n.toArray⟩)∧w'.cell? ⟨w.heap.size,1,none⟩=some (.string ⟨e.toArray⟩))) (by kernel_rfl) (HSS2.out _ (Fr.refl _ _).drew) (fun hHeld => ?_)
 refine takeM 0 ?_ rfl rfl (by kernel_rfl) (fun _ _ _ h=>h) rfl ?_ (by assumption) ?_
 rotate_left
 ·(intro w hSw;(try dsimp only at hSw);go_simp;(try with_reducible rfl))
 simp only [A4]
 refine takeM 2 ?_ rfl rfl (by kernel_rfl) (fun _ _ _ h=>h) rfl ?_ (by assumption) ?_
 rotate_left
 ·(intro w hSw;(try dsimp only at hSw);go_simp;(try with_reducible rfl))
 simp only [A4]
 refine takeM 3 ?_ rfl rfl (by kernel_rfl) (fun _ _ _ h=>h) rfl ?_ (by assumption) ?_
 rotate_left
 ·(intro w hSw;(try dsimp only at hSw);go_simp;(try with_reducible rfl))
 simp only [A4]
 refine readyL 1 (some 12) rfl rfl (by kernel_rfl) (fun K hK => ?_)
 go_simp
 (go_at_call 72;(with_reducible refine (KF1.out _ (Fr.refl NoB v2).drew).mono ?_);rintro er u1 ⟨f1,rfl,g1,t1'⟩;have t1:Fr NoB v2 u1:=(Fr.refl NoB v2).drew.trans t1')
 (try go_wp2_with fail)
 refine hK.out _ _ (by first|(with_reducible exact HSS2.out _ t1)|exact HSS2.out _ t1) (fun hHeld => ?_)
 clear hK K
 refine takeM 4 ?_ rfl rfl (by kernel_rfl) (fun _ _ _ h=>h) rfl ?_ (by assumption) ?_
 rotate_left
 ·(intro w hSw;(try dsimp only at hSw);go_simp;(try with_reducible rfl))
 simp only [A4]
 refine takeM 5 ?_ rfl rfl (by kernel_rfl) (fun _ _ _ h=>h) rfl ?_ (by assumption) ?_
 rotate_left
 ·(intro w hSw;(try dsimp only at hSw);go_simp;(try with_reducible rfl))
 simp only [A4]
 cases b1 with
 | false=>
  refine skipM 6 rfl rfl (by kernel_rfl) (fun _ _ _ h=>h) rfl (by assumption) ?_
  simp only [A4]
  refine skipM 7 rfl rfl (by kernel_rfl) (fun _ _ _ h=>h) rfl (by assumption) ?_
  simp only [A4]
  refine skipM 8 rfl rfl (by kernel_rfl) (fun _ _ _ h=>h) rfl (by assumption) ?_
  simp only [A4]
  refine skipM 9 rfl rfl (by kernel_rfl) (fun _ _ _ h=>h) rfl (by assumption) ?_
  simp only [A4]
  refine skipM 10 rfl rfl (by kernel_rfl) (fun _ _ _ h=>h) rfl (by assumption) ?_
  simp only [A4]
  refine takeM 11 (.bool false) rfl rfl (by kernel_rfl) (fun _ _ _ h=>h) rfl (fun _ _=>rfl) (by assumption) ?_
  simp only [A4]
  refine takeM 12 (.bool false) rfl rfl (by kernel_rfl) (fun _ _ _ h=>h) rfl (fun _ _=>rfl) (by assumption) ?_
  simp only [A4]
  refine skipM 13 rfl rfl (by kernel_rfl) (fun _ _ _ h=>h) rfl (by assumption) ?_
  simp only [A4]
  refine skipM 14 rfl rfl (by kernel_rfl) (fun _ _ _ h=>h) rfl (by assumption) ?_
  simp only [A4]
  refine skipM 15 rfl rfl (by kernel_rfl) (fun _ _ _ h=>h) rfl (by assumption) ?_
  simp only [A4]
  refine takeM 16 (.bool false) rfl rfl (by kernel_rfl) (fun _ _ _ h=>h) rfl (fun _ _=>rfl) (by assumption) ?_
  simp only [A4]
  refine takeM 17 (.bool false) rfl rfl (by kernel_rfl) (fun _ _ _ h=>h) rfl (fun _ _=>rfl) (by assumption) ?_
  simp only [A4]
  refine skipM 18 rfl rfl (by kernel_rfl) (fun _ _ _ h=>h) rfl (by assumption) ?_
  simp only [A4]
  refine skipM 19 rfl rfl (by kernel_rfl) (fun _ _ _ h=>h) rfl (by assumption) ?_
  simp only [A4]
  refine skipM 20 rfl rfl (by kernel_rfl) (fun _ _ _ h=>h) rfl (by assumption) ?_
  simp only [A4]
  refine takeM 21 (.bool false) rfl rfl (by kernel_rfl) (fun _ _ _ h=>h) rfl (fun _ _=>rfl) (by assumption) ?_
  simp only [A4]
  refine takeM 22 (.bool false) rfl rfl (by kernel_rfl) (fun _ _ _ h=>h) rfl (fun _ _=>rfl) (by assumption) ?_
  simp only [A4]
  refine skipM 23 rfl rfl (by kernel_rfl) (fun _ _ _ h=>h) rfl (by assumption) ?_
  simp only [A4]
  refine skipM 24 rfl rfl (by kernel_rfl) (fun _ _ _ h=>h) rfl (by assumption) ?_
  simp only [A4]
  refine skipM 25 rfl rfl (by kernel_rfl) (fun _ _ _ h=>h) rfl (by assumption) ?_
  simp only [A4]
  refine takeM 26 (.bool false) rfl rfl (by kernel_rfl) (fun _ _ _ h=>h) rfl (fun _ _=>rfl) (by assumption) ?_
  simp only [A4]
  refine takeM 27 (.bool false) rfl rfl (by kernel_rfl) (fun _ _ _ h=>h) rfl (fun _ _=>rfl) (by assumption) ?_
  simp only [A4]
  refine skipM 28 rfl rfl (by kernel_rfl) (fun _ _ _ h=>h) rfl (by assumption) ?_
  simp only [A4]
  refine skipM 29 rfl rfl (by kernel_rfl) (fun _ _ _ h=>h) rfl (by assumption) ?_
  simp only [A4]
  refine skipM 30 rfl rfl (by kernel_rfl) (fun _ _ _ h=>h) rfl (by assumption) ?_
  simp only [A4]
  refine takeM 31 (.bool false) rfl rfl (by kernel_rfl) (fun _ _ _ h=>h) rfl (fun _ _=>rfl) (by assumption) ?_
  simp only [A4]
  refine takeM 32 (.bool false) rfl rfl (by kernel_rfl) (fun _ _ _ h=>h) rfl (fun _ _=>rfl) (by assumption) ?_
  simp only [A4]
  refine skipM 33 rfl rfl (by kernel_rfl) (fun _ _ _ h=>h) rfl (by assumption) ?_
  simp only [A4]
  refine skipM 34 rfl rfl (by kernel_rfl) (fun _ _ _ h=>h) rfl (by assumption) ?_
  simp only [A4]
  refine skipM 35 rfl rfl (by kernel_rfl) (fun _ _ _ h=>h) rfl (by assumption) ?_
  simp only [A4]
  refine skipM 36 rfl rfl (by kernel_rfl) (fun _ _ _ h=>h) rfl (by assumption) ?_
  simp only [A4]
  refine takeM 37 (.bool false) rfl rfl (by kernel_rfl) (fun _ _ _ h=>h) rfl (fun _ _=>rfl) (by assumption) ?_
  simp only [A4]
  refine takeM 38 (.bool false) rfl rfl (by kernel_rfl) (fun _ _ _ h=>h) rfl (fun _ _=>rfl) (by assumption) ?_
  simp only [A4]
  refine skipM 39 rfl rfl (by kernel_rfl) (fun _ _ _ h=>h) rfl (by assumption) ?_
  simp only [A4]
  refine skipM 40 rfl rfl (by kernel_rfl) (fun _ _ _ h=>h) rfl (by assumption) ?_
  simp only [A4]
  refine skipM 41 rfl rfl (by kernel_rfl) (fun _ _ _ h=>h) rfl (by assumption) ?_
  simp only [A4]
  refine takeM 42 (.bool false) rfl rfl (by kernel_rfl) (fun _ _ _ h=>h) rfl (fun _ _=>rfl) (by assumption) ?_
  simp only [A4]
  refine takeM 43 (.bool false) rfl rfl (by kernel_rfl) (fun _ _ _ h=>h) rfl (fun _ _=>rfl) (by assumption) ?_
  simp only [A4]
  refine wpAnyH_done (by kernel_rfl) ?_ _
  go_wp2_with fail
  go_ret
  exact ⟨by rw [HRS.out];first|(simp;done)|(simp;intros;omega),f.trans t1⟩
 | true=>
  refine takeM 6 ?_ rfl rfl (by kernel_rfl) (fun _ _ _ h=>h) rfl ?_ (by assumption) ?_
  rotate_left
  ·(intro w hSw;(try dsimp only at hSw);go_simp;(try with_reducible rfl))
  simp only [A4]
  refine takeM 8 ?_ rfl rfl (by kernel_rfl) (fun _ _ _ h=>h) rfl ?_ (by assumption) ?_
  rotate_left
  ·(intro w hSw;(try dsimp only at hSw);go_simp;(try with_reducible rfl))
  simp only [A4]
  refine takeM 9 ?_ rfl rfl (by kernel_rfl) (fun _ _ _ h=>h) rfl ?_ (by assumption) ?_
  rotate_left
  ·(intro w hSw;(try dsimp only at hSw);go_simp;(try with_reducible rfl))
  simp only [A4]
  refine readyL 7 (some 18) rfl rfl (by kernel_rfl) (fun K hK => ?_)
  go_simp
  (go_at_call 72;(with_reducible refine (KF2.out _ t1).mono ?_);rintro er u2 ⟨f2,rfl,g2,t2'⟩;have t2:Fr NoB v2 u2:=t1.trans t2')
  (try go_wp2_with fail)
  refine hK.out _ _ (by first|(with_reducible exact HSS2.out _ t2)|exact HSS2.out _ t2) (fun hHeld => ?_)
  clear hK K
  refine takeM 10 ?_ rfl rfl (by kernel_rfl) (fun _ _ _ h=>h) rfl ?_ (by assumption) ?_
  rotate_left
  ·(intro w hSw;(try dsimp only at hSw);go_simp;(try with_reducible rfl))
  simp only [A4]
  refine takeM 11 ?_ rfl rfl (by kernel_rfl) (fun _ _ _ h=>h) rfl ?_ (by assumption) ?_
  rotate_left
  ·(intro w hSw;(try dsimp only at hSw);go_simp;(try with_reducible rfl))
  simp only [A4]
  refine takeM 12 ?_ rfl rfl (by kernel_rfl) (fun _ _ _ h=>h) rfl ?_ (by assumption) ?_
  rotate_left
  ·(intro w hSw;(try dsimp only at hSw);go_simp;(try with_reducible rfl))
  simp only [A4]
  cases b2 with
  | false=>
   refine skipM 13 rfl rfl (by kernel_rfl) (fun _ _ _ h=>h) rfl (by assumption) ?_
   simp only [A4]
   refine skipM 14 rfl rfl (by kernel_rfl) (fun _ _ _ h=>h) rfl (by assumption) ?_
   simp only [A4]
   refine skipM 15 rfl rfl (by kernel_rfl) (fun _ _ _ h=>h) rfl (by assumption) ?_
   simp only [A4]
   refine takeM 16 (.bool false) rfl rfl (by kernel_rfl) (fun _ _ _ h=>h) rfl (fun _ _=>rfl) (by assumption) ?_
   simp only [A4]
   refine takeM 17 (.bool false) rfl rfl (by kernel_rfl) (fun _ _ _ h=>h) rfl (fun _ _=>rfl) (by assumption) ?_
   simp only [A4]
   refine skipM 18 rfl rfl (by kernel_rfl) (fun _ _ _ h=>h) rfl (by assumption) ?_
   simp only [A4]
   refine skipM 19 rfl rfl (by kernel_rfl) (fun _ _ _ h=>h) rfl (by assumption) ?_
   simp only [A4]
   refine skipM 20 rfl rfl (by kernel_rfl) (fun _ _ _ h=>h) rfl (by assumption) ?_
   simp only [A4]
   refine takeM 21 (.bool false) rfl rfl (by kernel_rfl) (fun _ _ _ h=>h) rfl (fun _ _=>rfl) (by assumption) ?_
   simp only [A4]
   refine takeM 22 (.bool false) rfl rfl (by kernel_rfl) (fun _ _ _ h=>h) rfl (fun _ _=>rfl) (by assumption) ?_
   simp only [A4]
   refine skipM 23 rfl rfl (by kernel_rfl) (fun _ _ _ h=>h) rfl (by assumption) ?_
   simp only [A4]
   refine skipM 24 rfl rfl (by kernel_rfl) (fun _ _ _ h=>h) rfl (by assumption) ?_
   simp only [A4]
   refine skipM 25 rfl rfl (by kernel_rfl) (fun _ _ _ h=>h) rfl (by assumption) ?_
   simp only [A4]
   refine takeM 26 (.bool false) rfl rfl (by kernel_rfl) (fun _ _ _ h=>h) rfl (fun _ _=>rfl) (by assumption) ?_
   simp only [A4]
   refine takeM 27 (.bool false) rfl rfl (by kernel_rfl) (fun _ _ _ h=>h) rfl (fun _ _=>rfl) (by assumption) ?_
   simp only [A4]
   refine skipM 28 rfl rfl (by kernel_rfl) (fun _ _ _ h=>h) rfl (by assumption) ?_
   simp only [A4]
   refine skipM 29 rfl rfl (by kernel_rfl) (fun _ _ _ h=>h) rfl (by assumption) ?_
   simp only [A4]
   refine skipM 30 rfl rfl (by kernel_rfl) (fun _ _ _ h=>h) rfl (by assumption) ?_
   simp only [A4]
   refine takeM 31 (.bool false) rfl rfl (by kernel_rfl) (fun _ _ _ h=>h) rfl (fun _ _=>rfl) (by assumption) ?_
   simp only [A4]
   refine takeM 32 (.bool false) rfl rfl (by kernel_rfl) (fun _ _ _ h=>h) rfl (fun _ _=>rfl) (by assumption) ?_
   simp only [A4]
   refine skipM 33 rfl rfl (by kernel_rfl) (fun _ _ _ h=>h) rfl (by assumption) ?_
   simp only [A4]
   refine skipM 34 rfl rfl (by kernel_rfl) (fun _ _ _ h=>h) rfl (by assumption) ?_
   simp only [A4]
   refine skipM 35 rfl rfl (by kernel_rfl) (fun _ _ _ h=>h) rfl (by assumption) ?_
   simp only [A4]
   refine skipM 36 rfl rfl (by kernel_rfl) (fun _ _ _ h=>h) rfl (by assumption) ?_
   simp only [A4]
   refine takeM 37 (.bool false) rfl rfl (by kernel_rfl) (fun _ _ _ h=>h) rfl (fun _ _=>rfl) (by assumption) ?_
   simp only [A4]
   refine takeM 38 (.bool false) rfl rfl (by kernel_rfl) (fun _ _ _ h=>h) rfl (fun _ _=>rfl) (by assumption) ?_
   simp only [A4]
   refine skipM 39 rfl rfl (by kernel_rfl) (fun _ _ _ h=>h) rfl (by assumption) ?_
   simp only [A4]
   refine skipM 40 rfl rfl (by kernel_rfl) (fun _ _ _ h=>h) rfl (by assumption) ?_
   simp only [A4]
   refine skipM 41 rfl rfl (by kernel_rfl) (fun _ _ _ h=>h) rfl (by assumption) ?_
   simp only [A4]
   refine takeM 42 (.bool false) rfl rfl (by kernel_rfl) (fun _ _ _ h=>h) rfl (fun _ _=>rfl) (by assumption) ?_
   simp only [A4]
   refine takeM 43 (.bool false) rfl rfl (by kernel_rfl) (fun _ _ _ h=>h) rfl (fun _ _=>rfl) (by assumption) ?_
   simp only [A4]
   refine wpAnyH_done (by kernel_rfl) ?_ _
   go_wp2_with fail
   go_ret
   exact ⟨by rw [HRS.out];first|(simp;done)|(simp;intros;omega),f.trans t2⟩
  | true=>
   refine takeM 13 ?_ rfl rfl (by kernel_rfl) (fun _ _ _ h=>h) rfl ?_ (by assumption) ?_
   rotate_left
   ·(intro w hSw;(try dsimp only at hSw);go_simp;(try with_reducible rfl))
   simp only [A4]
   refine readyL 14 (some 25) rfl rfl (by kernel_rfl) (fun K hK => ?_)
   go_simp
   (go_at_call 73;(with_reducible refine (KB1.out _ t2).mono ?_);rintro er u3 ⟨rfl,rfl⟩)
   (try go_wp2_with fail)
   refine hK.out _ _ (by first|(with_reducible exact HSS2.out _ t2)|exact HSS2.out _ t2) (fun hHeld => ?_)
   clear hK K
   rcases (show pn=0∨pn=1 by omega) with rfl|rfl
   ·skip
    refine takeM 15 ?_ rfl rfl (by kernel_rfl) (fun _ _ _ h=>h) rfl ?_ (by assumption) ?_
    rotate_left
    ·(intro w hSw;(try dsimp only at hSw);go_simp;(try with_reducible rfl))
    simp only [A4]
    refine takeM 16 (.bool false) rfl rfl (by kernel_rfl) (fun _ _ _ h=>h) rfl (fun _ _=>rfl) (by assumption) ?_
    simp only [A4]
    refine takeM 17 (.bool false) rfl rfl (by kernel_rfl) (fun _ _ _ h=>h) rfl (fun _ _=>rfl) (by assumption) ?_
    simp only [A4]
    refine skipM 18 rfl rfl (by kernel_rfl) (fun _ _ _ h=>h) rfl (by assumption) ?_
    simp only [A4]
    refine skipM 19 rfl rfl (by kernel_rfl) (fun _ _ _ h=>h) rfl (by assumption) ?_
    simp only [A4]
    refine skipM 20 rfl rfl (by kernel_rfl) (fun _ _ _ h=>h) rfl (by assumption) ?_
    simp only [A4]
    refine takeM 21 (.bool false) rfl rfl (by kernel_rfl) (fun _ _ _ h=>h) rfl (fun _ _=>rfl) (by assumption) ?_
    simp only [A4]
    refine takeM 22 (.bool false) rfl rfl (by kernel_rfl) (fun _ _ _ h=>h) rfl (fun _ _=>rfl) (by assumption) ?_
    simp only [A4]
    refine skipM 23 rfl rfl (by kernel_rfl) (fun _ _ _ h=>h) rfl (by assumption) ?_
    simp only [A4]
    refine skipM 24 rfl rfl (by kernel_rfl) (fun _ _ _ h=>h) rfl (by assumption) ?_
    simp only [A4]
    refine skipM 25 rfl rfl (by kernel_rfl) (fun _ _ _ h=>h) rfl (by assumption) ?_
    simp only [A4]
    refine takeM 26 (.bool false) rfl rfl (by kernel_rfl) (fun _ _ _ h=>h) rfl (fun _ _=>rfl) (by assumption) ?_
    simp only [A4]
    refine takeM 27 (.bool false) rfl rfl (by kernel_rfl) (fun _ _ _ h=>h) rfl (fun _ _=>rfl) (by assumption) ?_
    simp only [A4]
    refine skipM 28 rfl rfl (by kernel_rfl) (fun _ _ _ h=>h) rfl (by assumption) ?_
    simp only [A4]
    refine skipM 29 rfl rfl (by kernel_rfl) (fun _ _ _ h=>h) rfl (by assumption) ?_
    simp only [A4]
    refine skipM 30 rfl rfl (by kernel_rfl) (fun _ _ _ h=>h) rfl (by assumption) ?_
    simp only [A4]
    refine takeM 31 (.bool false) rfl rfl (by kernel_rfl) (fun _ _ _ h=>h) rfl (fun _ _=>rfl) (by assumption) ?_
    simp only [A4]
    refine takeM 32 (.bool false) rfl rfl (by kernel_rfl) (fun _ _ _ h=>h) rfl (fun _ _=>rfl) (by assumption) ?_
    simp only [A4]
    refine skipM 33 rfl rfl (by kernel_rfl) (fun _ _ _ h=>h) rfl (by assumption) ?_
    simp only [A4]
    refine skipM 34 rfl rfl (by kernel_rfl) (fun _ _ _ h=>h) rfl (by assumption) ?_
    simp only [A4]
    refine skipM 35 rfl rfl (by kernel_rfl) (fun _ _ _ h=>h) rfl (by assumption) ?_
    simp only [A4]
    refine skipM 36 rfl rfl (by kernel_rfl) (fun _ _ _ h=>h) rfl (by assumption) ?_
    simp only [A4]
    refine takeM 37 (.bool false) rfl rfl (by kernel_rfl) (fun _ _ _ h=>h) rfl (fun _ _=>rfl) (by assumption) ?_
    simp only [A4]
    refine takeM 38 (.bool false) rfl rfl (by kernel_rfl) (fun _ _ _ h=>h) rfl (fun _ _=>rfl) (by assumption) ?_
    simp only [A4]
    refine skipM 39 rfl rfl (by kernel_rfl) (fun _ _ _ h=>h) rfl (by assumption) ?_
    simp only [A4]
    refine skipM 40 rfl rfl (by kernel_rfl) (fun _ _ _ h=>h) rfl (by assumption) ?_
    simp only [A4]
    refine skipM 41 rfl rfl (by kernel_rfl) (fun _ _ _ h=>h) rfl (by assumption) ?_
    simp only [A4]
    refine takeM 42 (.bool false) rfl rfl (by kernel_rfl) (fun _ _ _ h=>h) rfl (fun _ _=>rfl) (by assumption) ?_
    simp only [A4]
    refine takeM 43 (.bool false) rfl rfl (by kernel_rfl) (fun _ _ _ h=>h) rfl (fun _ _=>rfl) (by assumption) ?_
    simp only [A4]
    refine wpAnyH_done (by kernel_rfl) ?_ _
    go_wp2_with fail
    go_ret
    exact ⟨by rw [HRS.out];first|(simp;done)|(simp;intros;omega),f.trans t2⟩
   ·skip
    refine takeM 15 ?_ rfl rfl (by kernel_rfl) (fun _ _ _ h=>h) rfl ?_ (by assumption) ?_
    rotate_left
    ·(intro w hSw;(try dsimp only at hSw);go_simp;(try with_reducible rfl))
    simp only [A4]
    refine takeM 16 ?_ rfl rfl (by kernel_rfl) (fun _ _ _ h=>h) rfl ?_ (by assumption) ?_
    rotate_left
    ·(intro w hSw;(try dsimp only at hSw);go_simp;(try with_reducible rfl))
    simp only [A4]
    refine takeM 17 ?_ rfl rfl (by kernel_rfl) (fun _ _ _ h=>h) rfl ?_ (by assumption) ?_
    rotate_left
    ·(intro w hSw;(try dsimp only at hSw);go_simp;(try with_reducible rfl))
    simp only [A4]
    refine takeM 18 ?_ rfl rfl (by kernel_rfl) (fun _ _ _ h=>h) rfl ?_ (by assumption) ?_
    rotate_left
    ·(intro w hSw;(try dsimp only at hSw);go_simp;(try with_reducible rfl))
    simp only [A4]
    refine readyL 19 (some 30) rfl rfl (by kernel_rfl) (fun K hK => ?_)
    go_simp
    (go_at_call 73;(with_reducible refine (KB2.out _ t2).mono ?_);rintro er u4 ⟨rfl,rfl⟩)
    (try go_wp2_with fail)
    refine hK.out _ _ (by first|(with_reducible exact HSS2.out _ t2)|exact HSS2.out _ t2) (fun hHeld => ?_)
    clear hK K
    rcases (show pe=0∨pe=1 by omega) with rfl|rfl
    ·skip
     refine takeM 20 ?_ rfl rfl (by kernel_rfl) (fun _ _ _ h=>h) rfl ?_ (by assumption) ?_
     rotate_left
     ·(intro w hSw;(try dsimp only at hSw);go_simp;(try with_reducible rfl))
     simp only [A4]
     refine takeM 21 (.bool false) rfl rfl (by kernel_rfl) (fun _ _ _ h=>h) rfl (fun _ _=>rfl) (by assumption) ?_
     simp only [A4]
     refine takeM 22 (.bool false) rfl rfl (by kernel_rfl) (fun _ _ _ h=>h) rfl (fun _ _=>rfl) (by assumption) ?_
     simp only [A4]
     refine skipM 23 rfl rfl (by kernel_rfl) (fun _ _ _ h=>h) rfl (by assumption) ?_
     simp only [A4]
     refine skipM 24 rfl rfl (by kernel_rfl) (fun _ _ _ h=>h) rfl (by assumption) ?_
     simp only [A4]
     refine skipM 25 rfl rfl (by kernel_rfl) (fun _ _ _ h=>h) rfl (by assumption) ?_
     simp only [A4]
     refine takeM 26 (.bool false) rfl rfl (by kernel_rfl) (fun _ _ _ h=>h) rfl (fun _ _=>rfl) (by assumption) ?_
     simp only [A4]
     refine takeM 27 (.bool false) rfl rfl (by kernel_rfl) (fun _ _ _ h=>h) rfl (fun _ _=>rfl) (by assumption) ?_
     simp only [A4]
     refine skipM 28 rfl rfl (by kernel_rfl) (fun _ _ _ h=>h) rfl (by assumption) ?_
     simp only [A4]
     refine skipM 29 rfl rfl (by kernel_rfl) (fun _ _ _ h=>h) rfl (by assumption) ?_
     simp only [A4]
     refine skipM 30 rfl rfl (by kernel_rfl) (fun _ _ _ h=>h) rfl (by assumption) ?_
     simp only [A4]
     refine takeM 31 (.bool false) rfl rfl (by kernel_rfl) (fun _ _ _ h=>h) rfl (fun _ _=>rfl) (by assumption) ?_
     simp only [A4]
     refine takeM 32 (.bool false) rfl rfl (by kernel_rfl) (fun _ _ _ h=>h) rfl (fun _ _=>rfl) (by assumption) ?_
     simp only [A4]
     refine skipM 33 rfl rfl (by kernel_rfl) (fun _ _ _ h=>h) rfl (by assumption) ?_
     simp only [A4]
     refine skipM 34 rfl rfl (by kernel_rfl) (fun _ _ _ h=>h) rfl (by assumption) ?_
     simp only [A4]
     refine skipM 35 rfl rfl (by kernel_rfl) (fun _ _ _ h=>h) rfl (by assumption) ?_
     simp only [A4]
     refine skipM 36 rfl rfl (by kernel_rfl) (fun _ _ _ h=>h) rfl (by assumption) ?_
     simp only [A4]
     refine takeM 37 (.bool false) rfl rfl (by kernel_rfl) (fun _ _ _ h=>h) rfl (fun _ _=>rfl) (by assumption) ?_
     simp only [A4]
     refine takeM 38 (.bool false) rfl rfl (by kernel_rfl) (fun _ _ _ h=>h) rfl (fun _ _=>rfl) (by assumption) ?_
     simp only [A4]
     refine skipM 39 rfl rfl (by kernel_rfl) (fun _ _ _ h=>h) rfl (by assumption) ?_
     simp only [A4]
     refine skipM 40 rfl rfl (by kernel_rfl) (fun _ _ _ h=>h) rfl (by assumption) ?_
     simp only [A4]
     refine skipM 41 rfl rfl (by kernel_rfl) (fun _ _ _ h=>h) rfl (by assumption) ?_
     simp only [A4]
     refine takeM 42 (.bool false) rfl rfl (by kernel_rfl) (fun _ _ _ h=>h) rfl (fun _ _=>rfl) (by assumption) ?_
     simp only [A4]
     refine takeM 43 (.bool false) rfl rfl (by kernel_rfl) (fun _ _ _ h=>h) rfl (fun _ _=>rfl) (by assumption) ?_
     simp only [A4]
     refine wpAnyH_done (by kernel_rfl) ?_ _
     go_wp2_with fail
     go_ret
     exact ⟨by rw [HRS.out];first|(simp;done)|(simp;intros;omega),f.trans t2⟩
    ·skip
     refine takeM 20 ?_ rfl rfl (by kernel_rfl) (fun _ _ _ h=>h) rfl ?_ (by assumption) ?_
     rotate_left
     ·(intro w hSw;(try dsimp only at hSw);go_simp;(try with_reducible rfl))
     simp only [A4]
     refine takeM 21 ?_ rfl rfl (by kernel_rfl) (fun _ _ _ h=>h) rfl ?_ (by assumption) ?_
     rotate_left
     ·(intro w hSw;(try dsimp only at hSw);go_simp;(try with_reducible rfl))
     simp only [A4]
     refine takeM 22 ?_ rfl rfl (by kernel_rfl) (fun _ _ _ h=>h) rfl ?_ (by assumption) ?_
     rotate_left
     ·(intro w hSw;(try dsimp only at hSw);go_simp;(try with_reducible rfl))
     simp only [A4]
     refine takeM 23 ?_ rfl rfl (by kernel_rfl) (fun _ _ _ h=>h) rfl ?_ (by assumption) ?_
     rotate_left
     ·(intro w hSw;(try dsimp only at hSw);go_simp;(try with_reducible rfl))
     simp only [A4]
     refine readyL 24 (some 35) rfl rfl (by kernel_rfl) (fun K hK => ?_)
     go_simp
     (go_at_call 74;(with_reducible refine (KL1.out _ t2).mono ?_);rintro er u5 ⟨rfl,rfl⟩)
     (try go_wp2_with fail)
     refine hK.out _ _ (by first|(with_reducible exact HSS2.out _ t2)|exact HSS2.out _ t2) (fun hHeld => ?_)
     clear hK K
     by_cases h5:512≤nb
     rotate_left
     ·have d5:decide ((512:Int)≤(nb:Int))=false:=by rw [decide_eq_false_iff_not];omega
      refine takeM 25 ?_ rfl rfl (by kernel_rfl) (fun _ _ _ h=>h) rfl ?_ (by assumption) ?_
      rotate_left
      ·(intro w hSw;(try dsimp only at hSw);go_simp;(try with_reducible rfl))
      simp only [A4]
      refine takeM 26 (.bool false) rfl rfl (by kernel_rfl) (fun _ _ _ h=>h) rfl (fun _ _=>rfl) (by assumption) ?_
      simp only [A4]
      refine takeM 27 (.bool false) rfl rfl (by kernel_rfl) (fun _ _ _ h=>h) rfl (fun _ _=>rfl) (by assumption) ?_
      simp only [A4]
      refine skipM 28 rfl rfl (by kernel_rfl) (fun _ _ _ h=>h) rfl (by assumption) ?_
      simp only [A4]
      refine skipM 29 rfl rfl (by kernel_rfl) (fun _ _ _ h=>h) rfl (by assumption) ?_
      simp only [A4]
      refine skipM 30 rfl rfl (by kernel_rfl) (fun _ _ _ h=>h) rfl (by assumption) ?_
      simp only [A4]
      refine takeM 31 (.bool false) rfl rfl (by kernel_rfl) (fun _ _ _ h=>h) rfl (fun _ _=>rfl) (by assumption) ?_
      simp only [A4]
      refine takeM 32 (.bool false) rfl rfl (by kernel_rfl) (fun _ _ _ h=>h) rfl (fun _ _=>rfl) (by assumption) ?_
      simp only [A4]
      refine skipM 33 rfl rfl (by kernel_rfl) (fun _ _ _ h=>h) rfl (by assumption) ?_
      simp only [A4]
      refine skipM 34 rfl rfl (by kernel_rfl) (fun _ _ _ h=>h) rfl (by assumption) ?_
      simp only [A4]
      refine skipM 35 rfl rfl (by kernel_rfl) (fun _ _ _ h=>h) rfl (by assumption) ?_
      simp only [A4]
      refine skipM 36 rfl rfl (by kernel_rfl) (fun _ _ _ h=>h) rfl (by assumption) ?_
      simp only [A4]
      refine takeM 37 (.bool false) rfl rfl (by kernel_rfl) (fun _ _ _ h=>h) rfl (fun _ _=>rfl) (by assumption) ?_
      simp only [A4]
      refine takeM 38 (.bool false) rfl rfl (by kernel_rfl) (fun _ _ _ h=>h) rfl (fun _ _=>rfl) (by assumption) ?_
      simp only [A4]
      refine skipM 39 rfl rfl (by kernel_rfl) (fun _ _ _ h=>h) rfl (by assumption) ?_
      simp only [A4]
      refine skipM 40 rfl rfl (by kernel_rfl) (fun _ _ _ h=>h) rfl (by assumption) ?_
      simp only [A4]
      refine skipM 41 rfl rfl (by kernel_rfl) (fun _ _ _ h=>h) rfl (by assumption) ?_
      simp only [A4]
      refine takeM 42 (.bool false) rfl rfl (by kernel_rfl) (fun _ _ _ h=>h) rfl (fun _ _=>rfl) (by assumption) ?_
      simp only [A4]
      refine takeM 43 (.bool false) rfl rfl (by kernel_rfl) (fun _ _ _ h=>h) rfl (fun _ _=>rfl) (by assumption) ?_
      simp only [A4]
      refine wpAnyH_done (by kernel_rfl) ?_ _
      go_wp2_with fail
      go_ret
      exact ⟨by rw [HRS.out];first|(simp [h5];done)|(simp [h5];intros;omega),f.trans t2⟩
     ·have d5:decide ((512:Int)≤(nb:Int))=true:=by rw [decide_eq_true_eq];omega
      refine takeM 25 ?_ rfl rfl (by kernel_rfl) (fun _ _ _ h=>h) rfl ?_ (by assumption) ?_
      rotate_left
      ·(intro w hSw;(try dsimp only at hSw);go_simp;(try with_reducible rfl))
      simp only [A4]
      refine takeM 26 ?_ rfl rfl (by kernel_rfl) (fun _ _ _ h=>h) rfl ?_ (by assumption) ?_
      rotate_left
      ·(intro w hSw;(try dsimp only at hSw);go_simp;(try with_reducible rfl))
      simp only [A4]
      refine takeM 27 ?_ rfl rfl (by kernel_rfl) (fun _ _ _ h=>h) rfl ?_ (by assumption) ?_
      rotate_left
      ·(intro w hSw;(try dsimp only at hSw);go_simp;(try with_reducible rfl))
      simp only [A4]
      refine takeM 28 ?_ rfl rfl (by kernel_rfl) (fun _ _ _ h=>h) rfl ?_ (by assumption) ?_
      rotate_left
      ·(intro w hSw;(try dsimp only at hSw);go_simp;(try with_reducible rfl))
      simp only [A4]
      refine readyL 29 (some 40) rfl rfl (by kernel_rfl) (fun K hK => ?_)
      go_simp
      (go_at_call 74;(with_reducible refine (KL1.out _ t2).mono ?_);rintro er u6 ⟨rfl,rfl⟩)
      (try go_wp2_with fail)
      refine hK.out _ _ (by first|(with_reducible exact HSS2.out _ t2)|exact HSS2.out _ t2) (fun hHeld => ?_)
      clear hK K
      by_cases h6:nb≤2048
      rotate_left
      ·have d6:decide ((nb:Int)≤2048)=false:=by rw [decide_eq_false_iff_not];omega
       refine takeM 30 ?_ rfl rfl (by kernel_rfl) (fun _ _ _ h=>h) rfl ?_ (by assumption) ?_
       rotate_left
       ·(intro w hSw;(try dsimp only at hSw);go_simp;(try with_reducible rfl))
       simp only [A4]
       refine takeM 31 (.bool false) rfl rfl (by kernel_rfl) (fun _ _ _ h=>h) rfl (fun _ _=>rfl) (by assumption) ?_
       simp only [A4]
       refine takeM 32 (.bool false) rfl rfl (by kernel_rfl) (fun _ _ _ h=>h) rfl (fun _ _=>rfl) (by assumption) ?_
       simp only [A4]
       refine skipM 33 rfl rfl (by kernel_rfl) (fun _ _ _ h=>h) rfl (by assumption) ?_
       simp only [A4]
       refine skipM 34 rfl rfl (by kernel_rfl) (fun _ _ _ h=>h) rfl (by assumption) ?_
       simp only [A4]
       refine skipM 35 rfl rfl (by kernel_rfl) (fun _ _ _ h=>h) rfl (by assumption) ?_
       simp only [A4]
       refine skipM 36 rfl rfl (by kernel_rfl) (fun _ _ _ h=>h) rfl (by assumption) ?_
       simp only [A4]
       refine takeM 37 (.bool false) rfl rfl (by kernel_rfl) (fun _ _ _ h=>h) rfl (fun _ _=>rfl) (by assumption) ?_
       simp only [A4]
       refine takeM 38 (.bool false) rfl rfl (by kernel_rfl) (fun _ _ _ h=>h) rfl (fun _ _=>rfl) (by assumption) ?_
       simp only [A4]
       refine skipM 39 rfl rfl (by kernel_rfl) (fun _ _ _ h=>h) rfl (by assumption) ?_
       simp only [A4]
       refine skipM 40 rfl rfl (by kernel_rfl) (fun _ _ _ h=>h) rfl (by assumption) ?_
       simp only [A4]
       refine skipM 41 rfl rfl (by kernel_rfl) (fun _ _ _ h=>h) rfl (by assumption) ?_
       simp only [A4]
       refine takeM 42 (.bool false) rfl rfl (by kernel_rfl) (fun _ _ _ h=>h) rfl (fun _ _=>rfl) (by assumption) ?_
       simp only [A4]
       refine takeM 43 (.bool false) rfl rfl (by kernel_rfl) (fun _ _ _ h=>h) rfl (fun _ _=>rfl) (by assumption) ?_
       simp only [A4]
       refine wpAnyH_done (by kernel_rfl) ?_ _
       go_wp2_with fail
       go_ret
       exact ⟨by rw [HRS.out];first|(simp [h5,h6];done)|(simp [h5,h6];intros;omega),f.trans t2⟩
      ·have d6:decide ((nb:Int)≤2048)=true:=by rw [decide_eq_true_eq];omega
       refine takeM 30 ?_ rfl rfl (by kernel_rfl) (fun _ _ _ h=>h) rfl ?_ (by assumption) ?_
       rotate_left
       ·(intro w hSw;(try dsimp only at hSw);go_simp;(try with_reducible rfl))
       simp only [A4]
       refine takeM 31 ?_ rfl rfl (by kernel_rfl) (fun _ _ _ h=>h) rfl ?_ (by assumption) ?_
       rotate_left
       ·(intro w hSw;(try dsimp only at hSw);go_simp;(try with_reducible rfl))
       simp only [A4]
       refine takeM 32 ?_ rfl rfl (by kernel_rfl) (fun _ _ _ h=>h) rfl ?_ (by assumption) ?_
       rotate_left
       ·(intro w hSw;(try dsimp only at hSw);go_simp;(try with_reducible rfl))
       simp only [A4]
       refine takeM 33 ?_ rfl rfl (by kernel_rfl) (fun _ _ _ h=>h) rfl ?_ (by assumption) ?_
       rotate_left
       ·(intro w hSw;(try dsimp only at hSw);go_simp;(try with_reducible rfl))
       simp only [A4]
       refine readyL 34 (some 45) rfl rfl (by kernel_rfl) (fun K hK => ?_)
       go_simp
       have ta:Fr NoB v2 (_:World):=t2
       (try go_wp2_with fail)
       refine hK.out _ _ (by first|(with_reducible exact HSS2.out _ (t2.alloc _))|exact HSS2.out _ (t2.alloc _)) (fun hHeld => ?_)
       clear hK K
       refine readyL 35 (some 46) rfl rfl (by kernel_rfl) (fun K hK => ?_)
       go_simp
       (go_at_call 75;(with_reducible refine (KC.out _ t2).mono ?_);rintro er u7 ⟨rfl,t3'⟩;have t3:=t2.trans t3')
       (try go_wp2_with fail)
       refine hK.out _ _ (by first|(with_reducible exact HSS2.out _ t3)|exact HSS2.out _ t3) (fun hHeld => ?_)
       clear hK K
       by_cases h7:0≤z
       rotate_left
       ·have d7:decide ((0:Int)≤z)=false:=by rw [decide_eq_false_iff_not];omega
        refine takeM 36 ?_ rfl rfl (by kernel_rfl) (fun _ _ _ h=>h) rfl ?_ (by assumption) ?_
        rotate_left
        ·(intro w hSw;(try dsimp only at hSw);go_simp;(try with_reducible rfl))
        simp only [A4]
        refine takeM 37 (.bool false) rfl rfl (by kernel_rfl) (fun _ _ _ h=>h) rfl (fun _ _=>rfl) (by assumption) ?_
        simp only [A4]
        refine takeM 38 (.bool false) rfl rfl (by kernel_rfl) (fun _ _ _ h=>h) rfl (fun _ _=>rfl) (by assumption) ?_
        simp only [A4]
        refine skipM 39 rfl rfl (by kernel_rfl) (fun _ _ _ h=>h) rfl (by assumption) ?_
        simp only [A4]
        refine skipM 40 rfl rfl (by kernel_rfl) (fun _ _ _ h=>h) rfl (by assumption) ?_
        simp only [A4]
        refine skipM 41 rfl rfl (by kernel_rfl) (fun _ _ _ h=>h) rfl (by assumption) ?_
        simp only [A4]
        refine takeM 42 (.bool false) rfl rfl (by kernel_rfl) (fun _ _ _ h=>h) rfl (fun _ _=>rfl) (by assumption) ?_
        simp only [A4]
        refine takeM 43 (.bool false) rfl rfl (by kernel_rfl) (fun _ _ _ h=>h) rfl (fun _ _=>rfl) (by assumption) ?_
        simp only [A4]
        refine wpAnyH_done (by kernel_rfl) ?_ _
        go_wp2_with fail
        go_ret
        exact ⟨by rw [HRS.out];first|(simp [h5,h6];done)|(simp [h5,h6];intros;omega),f.trans t3⟩
       ·have d7:decide ((0:Int)≤z)=true:=by rw [decide_eq_true_eq];omega
        refine takeM 36 ?_ rfl rfl (by kernel_rfl) (fun _ _ _ h=>h) rfl ?_ (by assumption) ?_
        rotate_left
        ·(intro w hSw;(try dsimp only at hSw);go_simp;(try with_reducible rfl))
        simp only [A4]
        refine takeM 37 ?_ rfl rfl (by kernel_rfl) (fun _ _ _ h=>h) rfl ?_ (by assumption) ?_
        rotate_left
        ·(intro w hSw;(try dsimp only at hSw);go_simp;(try with_reducible rfl))
        simp only [A4]
        refine takeM 38 ?_ rfl rfl (by kernel_rfl) (fun _ _ _ h=>h) rfl ?_ (by assumption) ?_
        rotate_left
        ·(intro w hSw;(try dsimp only at hSw);go_simp;(try with_reducible rfl))
        simp only [A4]
        refine takeM 39 ?_ rfl rfl (by kernel_rfl) (fun _ _ _ h=>h) rfl ?_ (by assumption) ?_
        rotate_left
        ·(intro w hSw;(try dsimp only at hSw);go_simp;(try with_reducible rfl))
        simp only [A4]
        refine readyL 40 (some 51) rfl rfl (by kernel_rfl) (fun K hK => ?_)
        go_simp
        (go_at_call 74;(with_reducible refine (KL2.out _ t3).mono ?_);rintro er u8 ⟨rfl,rfl⟩)
        (try go_wp2_with fail)
        refine hK.out _ _ (by first|(with_reducible exact HSS2.out _ t3)|exact HSS2.out _ t3) (fun hHeld => ?_)
        clear hK K
        by_cases h8:eb≤32
        rotate_left
        ·have d8:decide ((eb:Int)≤32)=false:=by rw [decide_eq_false_iff_not];omega
         refine takeM 41 ?_ rfl rfl (by kernel_rfl) (fun _ _ _ h=>h) rfl ?_ (by assumption) ?_
         rotate_left
         ·(intro w hSw;(try dsimp only at hSw);go_simp;(try with_reducible rfl))
         simp only [A4]
         refine takeM 42 (.bool false) rfl rfl (by kernel_rfl) (fun _ _ _ h=>h) rfl (fun _ _=>rfl) (by assumption) ?_
         simp only [A4]
         refine takeM 43 (.bool false) rfl rfl (by kernel_rfl) (fun _ _ _ h=>h) rfl (fun _ _=>rfl) (by assumption) ?_
         simp only [A4]
         refine wpAnyH_done (by kernel_rfl) ?_ _
         go_wp2_with fail
         go_ret
         exact ⟨by rw [HRS.out];first|(simp [h5,h6,h7,h8];done)|(simp [h5,h6,h7,h8];intros;omega),f.trans t3⟩
        ·have d8:decide ((eb:Int)≤32)=true:=by rw [decide_eq_true_eq];omega
         refine takeM 41 ?_ rfl rfl (by kernel_rfl) (fun _ _ _ h=>h) rfl ?_ (by assumption) ?_
         rotate_left
         ·(intro w hSw;(try dsimp only at hSw);go_simp;(try with_reducible rfl))
         simp only [A4]
         refine takeM 42 ?_ rfl rfl (by kernel_rfl) (fun _ _ _ h=>h) rfl ?_ (by assumption) ?_
         rotate_left
         ·(intro w hSw;(try dsimp only at hSw);go_simp;(try with_reducible rfl))
         simp only [A4]
         refine takeM 43 (.bool true) rfl rfl (by kernel_rfl) (fun _ _ _ h=>h) rfl (fun _ _=>rfl) (by assumption) ?_
         simp only [A4]
         refine wpAnyH_done (by kernel_rfl) ?_ _
         go_wp2_with fail
         go_ret
         exact ⟨by rw [HRS.out];first|(simp [h5,h6,h7,h8];done)|(simp [h5,h6,h7,h8];intros;omega),f.trans t3⟩
end Go.Proofs.YtbifjamddbpcjaaGreatDoor
