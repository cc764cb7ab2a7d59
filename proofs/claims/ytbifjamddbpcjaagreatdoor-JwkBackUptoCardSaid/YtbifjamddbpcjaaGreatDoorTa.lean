/- JwkThumbs: the walk. -/
import Derived.Test.YtbifjamddbpcjaaGreatDoorYm
import Derived.Test.YtbifjamddbpcjaaGreatDoorOk
namespace Go.Proofs.YtbifjamddbpcjaaGreatDoor
set_option maxRecDepth 100000
set_option maxHeartbeats 25600000
open Go.RowKit
theorem key_two {u:World} {g:Nat} {k:Ky} (h:Blk u g 27 (kyC k)) (kid alg:Bs):Blk ((u.setCell ⟨g,1,none⟩ (.string ⟨kid.toArray⟩)).setCell ⟨g,2,none⟩ (.string ⟨alg.toArray⟩)) g 27 (kyC { k with kid:=kid,alg:=alg }):=by
 have h1:=(h.set_ 1 (.string ⟨kid.toArray⟩)).set_ 2 (.string ⟨alg.toArray⟩)
 have e:((kyC k).setIfInBounds 1 (.string ⟨kid.toArray⟩)).setIfInBounds 2 (.string ⟨alg.toArray⟩)=kyC { k with kid:=kid,alg:=alg }:=rfl
 rw [e] at h1
 simpa using h1
theorem put_key (u:World) (k:Ky):Fr NoB u ((u.alloc (.cells zk 27)).setRow u.heap.size (kyC k))∧Blk ((u.alloc (.cells zk 27)).setRow u.heap.size (kyC k)) u.heap.size 27 (kyC k):=
 ⟨((Fr.refl NoB u).alloc _).setRow u.heap.size _ (Or.inl (Nat.le_refl _)),(Blk.new u 27 zk).setRow _⟩
theorem key_cells {w:World} {g:Nat} {k:Ky} (h:Blk w g 27 (kyC k)):w.cell? ⟨g,0,none⟩=some (.int .i64 k.kty)∧w.cell? ⟨g,1,none⟩=some (.string ⟨k.kid.toArray⟩)∧w.cell? ⟨g,2,none⟩=some (.string ⟨k.alg.toArray⟩)∧w.cell? ⟨g,3,none⟩=some (.string ⟨k.n.toArray⟩)∧w.cell? ⟨g,4,none⟩=some (.string ⟨k.e.toArray⟩)∧w.cell? ⟨g,5,none⟩=some (.string ⟨k.x.toArray⟩)∧w.cell? ⟨g,6,none⟩=some (.string ⟨k.y.toArray⟩)∧w.cell? ⟨g,7,none⟩=some (.string ⟨k.sec.toArray⟩):=
 ⟨(h.cell 0).trans rfl,(h.cell 1).trans rfl,(h.cell 2).trans rfl,(h.cell 3).trans rfl,(h.cell 4).trans rfl,(h.cell 5).trans rfl,(h.cell 6).trans rfl,(h.cell 7).trans rfl⟩
theorem thumbs_walk {B:Nat} (k:Ky) (kid alg:Bs) (w:World) (hx:Cx B w) (hi:IntOk k.kty) (hz:szY k+kid.length+alg.length≤1048576) :
  Calls Tryz.prog 6 #[.agg (kyC k),.string ⟨kid.toArray⟩,.string ⟨alg.toArray⟩] w fun e w'=>e=.returned (.bool true)∧Fr NoB w w':=by
 obtain ⟨k2,hk2⟩:∃ k2:Ky,k2={ k with kid:=kid,alg:=alg }:=⟨_,rfl⟩
 have hz1:szY k≤1048576:=by omega
 have hz2:szY k2≤1048576:=by subst hk2;unfold szY at hz ⊢;simp only;omega
 have hi2:IntOk k2.kty:=by subst hk2;exact hi
 have hth:thumbP k2=thumbP k:=by subst hk2;rw [thumbP,thumb_eq,thumbP]
 have HT1:Hid (∀ u,Fr NoB w u→Calls Tryz.prog 10 #[.agg (kyC k)] u fun e w'=>e=.returned (.tuple #[.string ⟨(if kyOk k then thumbP k else []).toArray⟩,.int .i64 (if kyOk k then 0 else 100)])∧Fr NoB u w'):=Lib.hid (fun u f=>kthumb_any k u (hx.fr0 f) hi hz1)
 have HT2:Hid (∀ u,Fr NoB w u→Calls Tryz.prog 10 #[.agg (kyC k2)] u fun e w'=>e=.returned (.tuple #[.string ⟨(if kyOk k2 then thumbP k else []).toArray⟩,.int .i64 (if kyOk k2 then 0 else 100)])∧Fr NoB u w'):=Lib.hid (fun u f=>by rw [← hth];exact kthumb_any k2 u (hx.fr0 f) hi2 hz2)
 have HC1:Hid (∀ u,Calls Tryz.prog 12 #[.agg (kyC k)] u fun e w'=>e=.returned (.int .i64 (if kyOk k then 0 else 100))∧Fr NoB u w'):=Lib.hid (fun u=>kcheck_any k u (sm_of hi hz1))
 have HC2:Hid (∀ u,Calls Tryz.prog 12 #[.agg (kyC k2)] u fun e w'=>e=.returned (.int .i64 (if kyOk k2 then 0 else 100))∧Fr NoB u w'):=Lib.hid (fun u=>kcheck_any k2 u (sm_of hi2 hz2))
 have HF:Hid (∀ u,Fr NoB w u→Calls Tryz.prog 21 #[.string ⟨(thumbP k).toArray⟩] u fun e w'=>e=.returned (.tuple #[.string ⟨(sumP (textT (thumbJ k)).1).toArray⟩,.int .i64 0])∧Fr NoB u w'):=Lib.hid (fun u f=>by
  have:=from64_any (thumbP k) u (hx.fr0 f) (by rw [thumb_len];omega)
  rw [thumb_back] at this
  exact this)
 have HFx:Hid (∀ u,Fr NoB w u→Calls Tryz.prog 15 #[] u fun e w'=>e=.returned (.bool true)∧Fr NoB u w'):=Lib.hid (fun u f=>kfixed_any u (hx.fr0 f))
 have hl43:(thumbP k).length=43:=thumb_len k
 have hl32:(sumP (textT (thumbJ k)).1).length=32:=sumP_len _
 generalize thumbP k=TP at *
 generalize sumP (textT (thumbJ k)).1=SM at *
 have b0:=Blk.new w 27 (kyC k)
 have f0:Fr NoB w (w.alloc (.cells (kyC k) 27)):=(Fr.refl _ _).alloc _
 have honek:=one_key k
 have hTT:(TP==TP)=true:=by simp
 clear hi hz hz1 hz2 hi2 hth hx
 go_enter Tryz.func6,Tryz.ntmps6
 go_upto_region 1 with fail
 generalize w.alloc (.cells (kyC k) 27)=W at *
 cases hok:kyOk k with
 | false=>
  rw [hok] at HT1 HC1
  have HT1':Hid (∀ u,Fr NoB w u→Calls Tryz.prog 10 #[.agg (kyC k)] u fun e w'=>e=.returned (.tuple #[.string ⟨#[]⟩,.int .i64 100])∧Fr NoB u w'):=Lib.hid HT1.out
  clear hok HT1
  go_wp2_with (first|(refine ldK rfl _ rfl w.heap.size rfl b1 rfl ?_)|(refine ldK rfl _ rfl w.heap.size rfl b0 rfl ?_)|(go_at_call 10;((with_reducible refine (HT1'.out _ f0).mono ?_);rintro er w1 ⟨rfl,f1⟩;have b1:=f1.blk b0 (fun e=>e);obtain ⟨q0,q1,q2,q3,q4,q5,q6,q7⟩:=key_cells b1))|(go_at_call 12;((with_reducible refine (HC1.out _).mono ?_);rintro er w2 ⟨rfl,f2⟩))|(go_at_call 15;((with_reducible refine (HFx.out _ (f0.trans (f1.trans f2))).mono ?_);rintro er w3 ⟨rfl,f3⟩)))
  go_ret
  exact ⟨rfl,f0.trans (f1.trans (f2.trans f3))⟩
 | true=>
  rw [hok] at HT1
  have HT1':Hid (∀ u,Fr NoB w u→Calls Tryz.prog 10 #[.agg (kyC k)] u fun e w'=>e=.returned (.tuple #[.string ⟨TP.toArray⟩,.int .i64 0])∧Fr NoB u w'):=Lib.hid HT1.out
  clear hok HT1 HC1
  go_upto_region 4 with (first|(refine ldK rfl _ rfl w.heap.size rfl b0 rfl ?_)|(go_at_call 10;((with_reducible refine (HT1'.out _ f0).mono ?_);rintro er w1 ⟨rfl,f1⟩)))
  have b1:=f1.blk b0 (fun e=>e)
  have F1:=f0.trans f1
  have n9:=Blk.new w1 27 zk
  clear b0 f0 f1
  go_upto_region 5 with (first|(refine ldK rfl _ rfl w.heap.size rfl b1 rfl ?_)|(refine wpList_store_row rfl 27 _ _ rfl w1.heap.size (kyC k) rfl rfl 27 _ n9 size_key rfl honek ?_))
  obtain ⟨p9,b9⟩:=put_key w1 k
  have F9:=F1.trans p9
  have hw1:w.heap.size≤w1.heap.size:=F1.size
  clear n9 b1 F1 p9
  generalize (w1.alloc (.cells zk 27)).setRow w1.heap.size (kyC k)=U9 at *
  have b10:=key_two b9 kid alg
  rw [← hk2] at b10
  clear hk2
  have F10:=(F9.setCell_new (p:=⟨w1.heap.size,1,none⟩) hw1 (.string ⟨kid.toArray⟩)).setCell_new (p:=⟨w1.heap.size,2,none⟩) hw1 (.string ⟨alg.toArray⟩)
  have z1:U9.cell? ⟨w1.heap.size,1,none⟩=some (.string ⟨k.kid.toArray⟩):=(b9.cell 1).trans rfl
  have z2:U9.cell? ⟨w1.heap.size,2,none⟩=some (.string ⟨k.alg.toArray⟩):=(b9.cell 2).trans rfl
  have y1:=b9.frozen 1
  have y2:=b9.frozen 2
  go_upto_region 6 with fail
  clear z1 z2 y1 y2 b9 F9
  generalize (U9.setCell ⟨w1.heap.size,1,none⟩ (.string ⟨kid.toArray⟩)).setCell ⟨w1.heap.size,2,none⟩ (.string ⟨alg.toArray⟩)=U10 at *
  cases hok2:kyOk k2 with
  | false=>
   rw [hok2] at HT2 HC2
   have HT2':Hid (∀ u,Fr NoB w u→Calls Tryz.prog 10 #[.agg (kyC k2)] u fun e w'=>e=.returned (.tuple #[.string ⟨#[]⟩,.int .i64 100])∧Fr NoB u w'):=Lib.hid HT2.out
   clear hok2 HT2
   go_wp2_with (first|(refine ldK rfl _ rfl w1.heap.size rfl b11 rfl ?_)|(refine ldK rfl _ rfl w1.heap.size rfl b10 rfl ?_)|(go_at_call 10;((with_reducible refine (HT2'.out _ F10).mono ?_);rintro er w2 ⟨rfl,f2⟩;have b11:=f2.blk b10 (fun e=>e);obtain ⟨q0,q1,q2,q3,q4,q5,q6,q7⟩:=key_cells b11))|(go_at_call 12;((with_reducible refine (HC2.out _).mono ?_);rintro er w3 ⟨rfl,f3⟩))|(go_at_call 15;((with_reducible refine (HFx.out _ (F10.trans (f2.trans f3))).mono ?_);rintro er w4 ⟨rfl,f4⟩)))
   go_ret
   exact ⟨rfl,F10.trans (f2.trans (f3.trans f4))⟩
  | true=>
   rw [hok2] at HT2
   have HT2':Hid (∀ u,Fr NoB w u→Calls Tryz.prog 10 #[.agg (kyC k2)] u fun e w'=>e=.returned (.tuple #[.string ⟨TP.toArray⟩,.int .i64 0])∧Fr NoB u w'):=Lib.hid HT2.out
   clear hok2 HT2
   go_wp2_with (first|(refine ldK rfl _ rfl w1.heap.size rfl b10 rfl ?_)|(go_at_call 10;((with_reducible refine (HT2'.out _ F10).mono ?_);rintro er w2 ⟨rfl,f2⟩))|(go_at_call 21;((with_reducible refine (HF.out _ (F10.trans f2)).mono ?_);rintro er w3 ⟨rfl,f3⟩))|(go_at_call 15;((with_reducible refine (HFx.out _ (F10.trans (f2.trans f3))).mono ?_);rintro er w4 ⟨rfl,f4⟩)))
   go_ret
   exact ⟨rfl,F10.trans (f2.trans (f3.trans f4))⟩
end Go.Proofs.YtbifjamddbpcjaaGreatDoor
