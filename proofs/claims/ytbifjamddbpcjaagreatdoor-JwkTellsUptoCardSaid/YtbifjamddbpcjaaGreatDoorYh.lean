/- Keys. -/
import Derived.Test.YtbifjamddbpcjaaGreatDoorYr
import Derived.Test.YtbifjamddbpcjaaGreatDoorYb
import Derived.Test.YtbifjamddbpcjaaGreatDoorVd
import Derived.Shelf.SlSortCmp.WholeK
namespace Go.Proofs.YtbifjamddbpcjaaGreatDoor
set_option maxRecDepth 100000
set_option maxHeartbeats 25600000
open Go.RowKit
theorem Dl:(Tryz.prog.info? 86).map (·.size)=some 3:=by kernel_rfl
abbrev iG:Array Value := #[.string ⟨#[82,83,65]⟩,.string ⟨#[69,67]⟩,.string ⟨#[111,99,116]⟩]
theorem uW (w:World):Calls Tryz.prog 55 #[] w fun e w'=>e=.returned (.agg iG)/\Fr NoB w w':=by
 go_enter Tryz.func55,Tryz.ntmps55;go_wp2_with fail;exact bodyPost_ret (v:=.agg iG) (results_cell_row (by rfl) _ _ w.heap.size _ _ _ _ rfl (Blk.new w 86 iG) Tryz.underlying86 rfl Dl) rfl ⟨rfl,(Fr.refl _ _).alloc _⟩
theorem TA (u:World):(Instr.index 86 (.agg #[.string ⟨#[82,83,65]⟩,.string ⟨#[69,67]⟩,.string ⟨#[111,99,116]⟩]) (.int .i64 0)).run Tryz.prog u=.ok (.string ⟨#[82,83,65]⟩) u:=by kernel_rfl
theorem TC (u:World):(Instr.index 86 (.agg #[.string ⟨#[82,83,65]⟩,.string ⟨#[69,67]⟩,.string ⟨#[111,99,116]⟩]) (.int .i64 1)).run Tryz.prog u=.ok (.string ⟨#[69,67]⟩) u:=by kernel_rfl
theorem TD (u:World):(Instr.index 86 (.agg #[.string ⟨#[82,83,65]⟩,.string ⟨#[69,67]⟩,.string ⟨#[111,99,116]⟩]) (.int .i64 2)).run Tryz.prog u=.ok (.string ⟨#[111,99,116]⟩) u:=by kernel_rfl
theorem tK {u:World} {g:Nat} {a b:Value} (h:Blk u g 55 #[a,b]):u.cell? ⟨g,0,none⟩=some a/\u.cell? ⟨g,1,none⟩=some b/\u.frozen? ⟨g,0,none⟩=false/\u.frozen? ⟨g,1,none⟩=false:=
 ⟨(h.cell 0).trans rfl,(h.cell 1).trans rfl,h.frozen 0,h.frozen 1⟩
theorem yl {u:World} {g:Nat} {a0 b0:Value} (h:Blk u g 55 #[a0,b0]) (a b:Value):Blk ((u.setCell ⟨g,0,none⟩ a).setCell ⟨g,1,none⟩ b) g 55 #[a,b]:=by simpa using (h.aS 0 a).aS 1 b
theorem ql (k:Ky) (w:World) (hk:k.kty=0\/k.kty=1\/k.kty=2) (eK:KySm k) :
  Calls Tryz.prog 22 #[.agg (aR k)] w fun e w'=>∃ g,e=.returned (.slice (some ⟨g,0,none⟩) (az k).length (az k).length)/\w.heap.size<=g/\Blk w' g 55 (iP (az k)).toArray/\Fr NoB w w':=by
 have b0:=Blk.new w 27 (aR k);have f0:Fr NoB w (w.alloc (.cells (aR k) 27)):=(Fr.refl _ _).alloc _;obtain ⟨kty,kid,alg,n,e,x,y,sec⟩:=k;obtain ⟨-,-,-,hn,he,hx,hy,hs⟩:=eK;simp only at hn he hx hy hs hk;have KK:Hid (∀ u,Calls Tryz.prog 55 #[] u fun e w'=>e=.returned (.agg #[.string ⟨#[82,83,65]⟩,.string ⟨#[69,67]⟩,.string ⟨#[111,99,116]⟩])/\Fr NoB u w'):=hd' (fun u=>uW u);have hW:w.heap.size<(w.alloc (.cells (aR ⟨kty,kid,alg,n,e,x,y,sec⟩) 27)).heap.size:=by simp
 go_enter Tryz.func22,Tryz.ntmps22;go_upto_region 1 with fail;generalize w.alloc (.cells (aR ⟨kty,kid,alg,n,e,x,y,sec⟩) 27)=W at *;have bu:Hid (∀ u,Fr NoB W u->u.cell? ⟨w.heap.size,0,none⟩=some (.int .i64 kty)):=hd' (fun u f=>(f.cell (p:=⟨w.heap.size,0,none⟩) hW id).trans ((b0.cell 0).trans rfl));have q0:=bu.out W (Fr.refl _ _);have k0:(0:Int)<=kty:=by omega
 have k3:kty<3:=by omega
 rcases hk with rfl|rfl|rfl
 ·go_cut [3] (fun v3 wx=>∃ g3,v3=.pointer (some ⟨g3,0,none⟩)/\W.heap.size<=g3/\Blk wx g3 55 #[.string ⟨#[107,116,121]⟩,.string ⟨#[82,83,65]⟩]/\Fr NoB W wx)
  case first=>
   have ix:=TA;go_region_held3 (fun w'=>w'.cell? ⟨w.heap.size,0,none⟩=some (.int .i64 0)) (first|(with_reducible exact bu.out _ t1)|(with_reducible exact bu.out _ (Fr.refl _ _))|(with_reducible exact bu.out _ (Fr.refl _ _).drew)|(with_reducible exact bu.out _ ((Fr.refl _ _).alloc _).drew)|(with_reducible refine bu.out _ ?_;repeat' (first|(with_reducible exact t1)|(with_reducible refine Fr.drew ?_)|(with_reducible refine Fr.alloc ?_ _)|(with_reducible refine Fr.setCell_new ?_ (by first|exact Nat.le_refl _|omega) _)))|go_keep) (first|(go_at_call 55;(with_reducible refine (KK.out _).mono ?_);rintro e v1 ⟨rfl,fy⟩;(first|(with_reducible have t1:Fr NoB W v1:=(Fr.refl NoB W).drew.trans fy)|((with_reducible have t1:Fr NoB W v1:=((Fr.refl NoB W).alloc _).drew.trans fy);have nB:=fy.blk (show Blk _ W.heap.size 55 _ from Blk.new W _ _) id;have nA:=tK nB;have n0:=nA.1;have n1:=nA.2.1;have n2:=nA.2.2.1;have n3:=nA.2.2.2))));all_goals (go_wp2_with fail)
   all_goals (go_meet;refine ⟨_,rfl,?_,?_,?_⟩)
   all_goals (repeat' (first|(with_reducible assumption)|(with_reducible exact Nat.le_refl _)|(with_reducible exact t1.size)|(with_reducible exact Blk.new _ _ _)|(with_reducible exact yl nB _ _)|(with_reducible refine Fr.alloc ?_ _)|(with_reducible refine Fr.setCell_new ?_ (by first|exact Nat.le_refl _|omega) _)))
  case rest=>
  obtain ⟨g3,rfl,YF,b3,hf⟩:=hcut;have kD:Hid (∀ u,Fr NoB wc u->u.cell? ⟨w.heap.size,4,none⟩=some (.string ⟨e.toArray⟩)/\u.cell? ⟨w.heap.size,3,none⟩=some (.string ⟨n.toArray⟩)/\u.cell? ⟨g3,0,none⟩=some (.string ⟨#[107,116,121]⟩)/\u.cell? ⟨g3,1,none⟩=some (.string ⟨#[82,83,65]⟩)):=hd' (fun u f=>⟨((hf.trans f).cell (p:=⟨w.heap.size,4,none⟩) hW id).trans ((b0.cell 4).trans rfl),((hf.trans f).cell (p:=⟨w.heap.size,3,none⟩) hW id).trans ((b0.cell 3).trans rfl),(f.cell (p:=⟨g3,0,none⟩) b3.lt id).trans ((b3.cell 0).trans rfl),(f.cell (p:=⟨g3,1,none⟩) b3.lt id).trans ((b3.cell 1).trans rfl)⟩);have KA:Hid (∀ u,Calls Tryz.prog 30 #[.string ⟨e.toArray⟩] u fun r w'=>r=.returned (.string ⟨(aX e).toArray⟩)/\Fr NoB u w'):=hd' (fun u=>dZ e u (Nat.le_trans he (by decide)));have KB:Hid (∀ u,Calls Tryz.prog 30 #[.string ⟨n.toArray⟩] u fun r w'=>r=.returned (.string ⟨(aX n).toArray⟩)/\Fr NoB u w'):=hd' (fun u=>dZ n u (Nat.le_trans hn (by decide)));have A6:=f0.trans hf;have hsz:=A6.size;have c0:wc.cell? ⟨w.heap.size,0,none⟩=some (.int .i64 0):=(hf.cell (p:=⟨w.heap.size,0,none⟩) hW id).trans q0;clear bu q0 b0 b3;go_upto_region 4 with fail;go_region_held3 (fun u=>u.cell? ⟨w.heap.size,4,none⟩=some (.string ⟨e.toArray⟩)/\u.cell? ⟨w.heap.size,3,none⟩=some (.string ⟨n.toArray⟩)/\u.cell? ⟨g3,0,none⟩=some (.string ⟨#[107,116,121]⟩)/\u.cell? ⟨g3,1,none⟩=some (.string ⟨#[82,83,65]⟩)) (first|(with_reducible exact kD.out _ t2)|(with_reducible exact kD.out _ t1)|(with_reducible exact kD.out _ (Fr.refl _ _))|(with_reducible exact kD.out _ (Fr.refl _ _).drew)|(with_reducible refine kD.out _ ?_;repeat' (first|(with_reducible exact t2)|(with_reducible exact t1)|(with_reducible exact Fr.refl _ _)|(with_reducible refine Fr.drew ?_)|(with_reducible refine Fr.alloc ?_ _)))|go_keep) (first|(go_at_call 30;(first|(with_reducible refine (KA.out _).mono ?_)|(with_reducible refine (KB.out _).mono ?_));rintro e v ⟨rfl,t'⟩;(first|(with_reducible have t2:Fr NoB wc v:=t1.trans t')|(with_reducible have t1:Fr NoB wc v:=(Fr.refl NoB wc).drew.trans t'))));all_goals (go_wp2_with fail)
  all_goals (go_ret)
  all_goals (first|exact ⟨_,rfl,(A6.trans t2).size,Blk.new _ _ _,(A6.trans t2).alloc _⟩|exact ⟨_,rfl,(A6.trans t1).size,Blk.new _ _ _,(A6.trans t1).alloc _⟩)
 ·go_cut [3] (fun v3 wx=>∃ g3,v3=.pointer (some ⟨g3,0,none⟩)/\W.heap.size<=g3/\Blk wx g3 55 #[.string ⟨#[107,116,121]⟩,.string ⟨#[69,67]⟩]/\Fr NoB W wx)
  case first=>
   have ix:=TC;go_region_held3 (fun w'=>w'.cell? ⟨w.heap.size,0,none⟩=some (.int .i64 1)) (first|(with_reducible exact bu.out _ t1)|(with_reducible exact bu.out _ (Fr.refl _ _))|(with_reducible exact bu.out _ (Fr.refl _ _).drew)|(with_reducible exact bu.out _ ((Fr.refl _ _).alloc _).drew)|(with_reducible refine bu.out _ ?_;repeat' (first|(with_reducible exact t1)|(with_reducible refine Fr.drew ?_)|(with_reducible refine Fr.alloc ?_ _)|(with_reducible refine Fr.setCell_new ?_ (by first|exact Nat.le_refl _|omega) _)))|go_keep) (first|(go_at_call 55;(with_reducible refine (KK.out _).mono ?_);rintro e v1 ⟨rfl,fy⟩;(first|(with_reducible have t1:Fr NoB W v1:=(Fr.refl NoB W).drew.trans fy)|((with_reducible have t1:Fr NoB W v1:=((Fr.refl NoB W).alloc _).drew.trans fy);have nB:=fy.blk (show Blk _ W.heap.size 55 _ from Blk.new W _ _) id;have nA:=tK nB;have n0:=nA.1;have n1:=nA.2.1;have n2:=nA.2.2.1;have n3:=nA.2.2.2))));all_goals (go_wp2_with fail)
   all_goals (go_meet;refine ⟨_,rfl,?_,?_,?_⟩)
   all_goals (repeat' (first|(with_reducible assumption)|(with_reducible exact Nat.le_refl _)|(with_reducible exact t1.size)|(with_reducible exact Blk.new _ _ _)|(with_reducible exact yl nB _ _)|(with_reducible refine Fr.alloc ?_ _)|(with_reducible refine Fr.setCell_new ?_ (by first|exact Nat.le_refl _|omega) _)))
  case rest=>
  obtain ⟨g3,rfl,YF,b3,hf⟩:=hcut;have kD:Hid (∀ u,Fr NoB wc u->u.cell? ⟨w.heap.size,5,none⟩=some (.string ⟨x.toArray⟩)/\u.cell? ⟨w.heap.size,6,none⟩=some (.string ⟨y.toArray⟩)/\u.cell? ⟨g3,0,none⟩=some (.string ⟨#[107,116,121]⟩)/\u.cell? ⟨g3,1,none⟩=some (.string ⟨#[69,67]⟩)):=hd' (fun u f=>⟨((hf.trans f).cell (p:=⟨w.heap.size,5,none⟩) hW id).trans ((b0.cell 5).trans rfl),((hf.trans f).cell (p:=⟨w.heap.size,6,none⟩) hW id).trans ((b0.cell 6).trans rfl),(f.cell (p:=⟨g3,0,none⟩) b3.lt id).trans ((b3.cell 0).trans rfl),(f.cell (p:=⟨g3,1,none⟩) b3.lt id).trans ((b3.cell 1).trans rfl)⟩);have KA:Hid (∀ u,Calls Tryz.prog 30 #[.string ⟨x.toArray⟩] u fun r w'=>r=.returned (.string ⟨(aX x).toArray⟩)/\Fr NoB u w'):=hd' (fun u=>dZ x u (Nat.le_trans hx (by decide)));have KB:Hid (∀ u,Calls Tryz.prog 30 #[.string ⟨y.toArray⟩] u fun r w'=>r=.returned (.string ⟨(aX y).toArray⟩)/\Fr NoB u w'):=hd' (fun u=>dZ y u (Nat.le_trans hy (by decide)));have A6:=f0.trans hf;have hsz:=A6.size;have c0:wc.cell? ⟨w.heap.size,0,none⟩=some (.int .i64 1):=(hf.cell (p:=⟨w.heap.size,0,none⟩) hW id).trans q0;clear bu q0 b0 b3;go_upto_region 6 with fail;go_region_held3 (fun u=>u.cell? ⟨w.heap.size,5,none⟩=some (.string ⟨x.toArray⟩)/\u.cell? ⟨w.heap.size,6,none⟩=some (.string ⟨y.toArray⟩)/\u.cell? ⟨g3,0,none⟩=some (.string ⟨#[107,116,121]⟩)/\u.cell? ⟨g3,1,none⟩=some (.string ⟨#[69,67]⟩)) (first|(with_reducible exact kD.out _ t2)|(with_reducible exact kD.out _ t1)|(with_reducible exact kD.out _ (Fr.refl _ _))|(with_reducible exact kD.out _ (Fr.refl _ _).drew)|(with_reducible refine kD.out _ ?_;repeat' (first|(with_reducible exact t2)|(with_reducible exact t1)|(with_reducible exact Fr.refl _ _)|(with_reducible refine Fr.drew ?_)|(with_reducible refine Fr.alloc ?_ _)))|go_keep) (first|(go_at_call 30;(first|(with_reducible refine (KA.out _).mono ?_)|(with_reducible refine (KB.out _).mono ?_));rintro e v ⟨rfl,t'⟩;(first|(with_reducible have t2:Fr NoB wc v:=t1.trans t')|(with_reducible have t1:Fr NoB wc v:=(Fr.refl NoB wc).drew.trans t'))));all_goals (go_wp2_with fail)
  all_goals (go_ret)
  all_goals (first|exact ⟨_,rfl,(A6.trans t2).size,Blk.new _ _ _,(A6.trans t2).alloc _⟩|exact ⟨_,rfl,(A6.trans t1).size,Blk.new _ _ _,(A6.trans t1).alloc _⟩)
 ·go_cut [3] (fun v3 wx=>∃ g3,v3=.pointer (some ⟨g3,0,none⟩)/\W.heap.size<=g3/\Blk wx g3 55 #[.string ⟨#[107,116,121]⟩,.string ⟨#[111,99,116]⟩]/\Fr NoB W wx)
  case first=>
   have ix:=TD;go_region_held3 (fun w'=>w'.cell? ⟨w.heap.size,0,none⟩=some (.int .i64 2)) (first|(with_reducible exact bu.out _ t1)|(with_reducible exact bu.out _ (Fr.refl _ _))|(with_reducible exact bu.out _ (Fr.refl _ _).drew)|(with_reducible exact bu.out _ ((Fr.refl _ _).alloc _).drew)|(with_reducible refine bu.out _ ?_;repeat' (first|(with_reducible exact t1)|(with_reducible refine Fr.drew ?_)|(with_reducible refine Fr.alloc ?_ _)|(with_reducible refine Fr.setCell_new ?_ (by first|exact Nat.le_refl _|omega) _)))|go_keep) (first|(go_at_call 55;(with_reducible refine (KK.out _).mono ?_);rintro e v1 ⟨rfl,fy⟩;(first|(with_reducible have t1:Fr NoB W v1:=(Fr.refl NoB W).drew.trans fy)|((with_reducible have t1:Fr NoB W v1:=((Fr.refl NoB W).alloc _).drew.trans fy);have nB:=fy.blk (show Blk _ W.heap.size 55 _ from Blk.new W _ _) id;have nA:=tK nB;have n0:=nA.1;have n1:=nA.2.1;have n2:=nA.2.2.1;have n3:=nA.2.2.2))));all_goals (go_wp2_with fail)
   all_goals (go_meet;refine ⟨_,rfl,?_,?_,?_⟩)
   all_goals (repeat' (first|(with_reducible assumption)|(with_reducible exact Nat.le_refl _)|(with_reducible exact t1.size)|(with_reducible exact Blk.new _ _ _)|(with_reducible exact yl nB _ _)|(with_reducible refine Fr.alloc ?_ _)|(with_reducible refine Fr.setCell_new ?_ (by first|exact Nat.le_refl _|omega) _)))
  case rest=>
  obtain ⟨g3,rfl,YF,b3,hf⟩:=hcut;have kD:Hid (∀ u,Fr NoB wc u->u.cell? ⟨w.heap.size,7,none⟩=some (.string ⟨sec.toArray⟩)/\u.cell? ⟨g3,0,none⟩=some (.string ⟨#[107,116,121]⟩)/\u.cell? ⟨g3,1,none⟩=some (.string ⟨#[111,99,116]⟩)):=hd' (fun u f=>⟨((hf.trans f).cell (p:=⟨w.heap.size,7,none⟩) hW id).trans ((b0.cell 7).trans rfl),(f.cell (p:=⟨g3,0,none⟩) b3.lt id).trans ((b3.cell 0).trans rfl),(f.cell (p:=⟨g3,1,none⟩) b3.lt id).trans ((b3.cell 1).trans rfl)⟩);have KA:Hid (∀ u,Calls Tryz.prog 30 #[.string ⟨sec.toArray⟩] u fun r w'=>r=.returned (.string ⟨(aX sec).toArray⟩)/\Fr NoB u w'):=hd' (fun u=>dZ sec u (Nat.le_trans hs (by decide)));have KB:Hid (∀ u,Calls Tryz.prog 30 #[.string ⟨sec.toArray⟩] u fun r w'=>r=.returned (.string ⟨(aX sec).toArray⟩)/\Fr NoB u w'):=hd' (fun u=>dZ sec u (Nat.le_trans hs (by decide)));have A6:=f0.trans hf;have hsz:=A6.size;have c0:wc.cell? ⟨w.heap.size,0,none⟩=some (.int .i64 2):=(hf.cell (p:=⟨w.heap.size,0,none⟩) hW id).trans q0;clear bu q0 b0 b3;go_upto_region 7 with fail;go_region_held3 (fun u=>u.cell? ⟨w.heap.size,7,none⟩=some (.string ⟨sec.toArray⟩)/\u.cell? ⟨g3,0,none⟩=some (.string ⟨#[107,116,121]⟩)/\u.cell? ⟨g3,1,none⟩=some (.string ⟨#[111,99,116]⟩)) (first|(with_reducible exact kD.out _ t2)|(with_reducible exact kD.out _ t1)|(with_reducible exact kD.out _ (Fr.refl _ _))|(with_reducible exact kD.out _ (Fr.refl _ _).drew)|(with_reducible refine kD.out _ ?_;repeat' (first|(with_reducible exact t2)|(with_reducible exact t1)|(with_reducible exact Fr.refl _ _)|(with_reducible refine Fr.drew ?_)|(with_reducible refine Fr.alloc ?_ _)))|go_keep) (first|(go_at_call 30;(first|(with_reducible refine (KA.out _).mono ?_)|(with_reducible refine (KB.out _).mono ?_));rintro e v ⟨rfl,t'⟩;(first|(with_reducible have t2:Fr NoB wc v:=t1.trans t')|(with_reducible have t1:Fr NoB wc v:=(Fr.refl NoB wc).drew.trans t'))));all_goals (go_wp2_with fail)
  all_goals (go_ret)
  all_goals (first|exact ⟨_,rfl,(A6.trans t2).size,Blk.new _ _ _,(A6.trans t2).alloc _⟩|exact ⟨_,rfl,(A6.trans t1).size,Blk.new _ _ _,(A6.trans t1).alloc _⟩)
open Go.RowKit Go.Shelf Go.Sort
theorem Dm (x y:Bs×Bs) (W:World):Calls Tryz.prog 24 #[.agg #[sV x.1,sV x.2],.agg #[sV y.1,sV y.2]] W fun e w'=>e=.returned (.int .i64 (Lib.compareBytes x.1 y.1))/\∃ q os',w'=grow (W.drewN q) os':=by
 obtain ⟨a,b⟩:=x;obtain ⟨c,d⟩:=y;have XD:=hd' (fun W'=>zB a c W');generalize Lib.compareBytes a c=r at XD ⊢;go_enter Tryz.func24,Tryz.ntmps24;go_wp2_with (go_at_call 25;((with_reducible refine (XD.out _).mono ?_);rintro e w' ⟨rfl,rfl⟩));go_ret;exact ⟨rfl,0,_,by rw [alloc_eq_grow,alloc_eq_grow,grow_grow];rfl⟩
theorem wI:∀ (l l':List (Bs×Bs)),l.Perm l'->l.Pairwise (fun a b=>a.1<b.1)->l'.Pairwise (fun a b=>¬ b.1<a.1)->l=l'
 | [],l',h,_,_=>(List.nil_perm.1 h).symm
 | a::r,[],h,_,_=>absurd h.symm (by intro h;have:=List.nil_perm.1 h;cases this)
 | a::r,b::r',h,h1,h2=>by
  rw [List.pairwise_cons] at h1 h2;by_cases e:a=b
  ·subst e;rw [wI r r' (List.Perm.cons_inv h) h1.2 h2.2]
  ·have hb:b∈a::r:=h.mem_iff.2 (by simp);have ha:a∈b::r':=h.mem_iff.1 (by simp);have hb':b∈r:=by
    rcases List.mem_cons.1 hb with hb|hb
    ·exact absurd hb.symm e
    ·exact hb
   have ha':a∈r':=by
    rcases List.mem_cons.1 ha with ha|ha
    ·exact absurd ha e
    ·exact ha
   exact absurd (h1.1 b hb') (h2.1 a ha')
def ym (x:Bs×Bs):List Value:=[sV x.1,sV x.2]
theorem A7 (L:List (Bs×Bs)) (j:Nat) (h:j<L.length*2):(iP L)[j]?=some ((flatK ym 2 L.toArray)[j]!):=by
 rw [get_flatK ym 2 L.toArray j (by simpa using h)];have hm:j / 2<L.length:=by omega
 obtain ⟨c0,c1⟩:=tL L (j / 2) hm;have e1:L.toArray[j / 2]! = L[j / 2]:=by simp [hm]
 rw [e1];rcases Nat.mod_two_eq_zero_or_one j with h0|h0
 ·rw [h0];have:j / 2*2=j:=by omega
  rw [this] at c0;rw [c0];rfl
 ·rw [h0];have:j / 2*2+1=j:=by omega
  rw [this] at c1;rw [c1];rfl
theorem Im (L T:List (Bs×Bs)) (g cap:Nat) (w:World) (hg:g<w.heap.size) (hL:L.length<=1000) (hc:∀ (i:Nat) u,(iP L)[i]?=some u->w.cell? ⟨g,i,none⟩=some u) (hz:∀ i,i<L.length*2->w.frozen? ⟨g,i,none⟩=false)
  (hp:T.Perm L) (hs:T.Pairwise (fun a b=>a.1<b.1)) :
  Calls Tryz.prog 23 #[.slice (some ⟨g,0,none⟩) L.length cap,.func (.func 24) #[] #[]] w fun e w'=>e=.returned (.tuple #[])/\(∀ (i:Nat) u,(iP T)[i]?=some u->w'.cell? ⟨g,i,none⟩=some u)/\Fr (Only g) w w':=by
 have hlt:∀ x y:Bs×Bs,ltOf (fun x y:Bs×Bs=>Lib.compareBytes x.1 y.1) x y=decide (x.1<y.1):=fun x y=>by
  unfold ltOf;rw [decide_eq_decide];exact Ci _ _
 have hO:SWO (ltOf (fun x y:Bs×Bs=>Lib.compareBytes x.1 y.1)):={
  irrefl:=fun x=>by rw [hlt];simp [List.lt_irrefl]
  trans:=fun x y z a b=>by rw [hlt] at *;simp only [decide_eq_true_eq] at *;exact List.lt_trans a b
  ntrans:=fun x y z a b=>by rw [hlt] at *;simp only [decide_eq_false_iff_not] at *;exact List.not_lt.2 (List.le_trans (List.not_lt.1 b) (List.not_lt.1 a)) }
 have eg:∀ args w,(callFunc 24 args).run Tryz.prog w=.ok (.enter 24 args) w:=enters_of Tryz.func24 (by kernel_rfl) rfl;have hH:HoldsK ym 2 w g 0 L.toArray:=by
  intro j hj;have MH:j<L.length*2:=by simpa using hj
  refine ⟨?_,by rw [Nat.zero_add];exact hz j MH⟩;rw [Nat.zero_add];exact hc j _ (A7 L j MH)
 have Rs:CmpLays Tryz.prog 24 #[] ym 2 (fun x y:Bs×Bs=>Lib.compareBytes x.1 y.1) g 0 L.toArray.size w:=fun m os dk hs x y=>Dm x y _;have main:=AnyQ.slices_SortFunc Tryz.sortMem 2 (by intro w;kernel_rfl) (by intro w;kernel_rfl) ym (fun _=>rfl) (fun x v hv=>by simp [ym] at hv;rcases hv with rfl|rfl<;>rfl) (fun x y:Bs×Bs=>Lib.compareBytes x.1 y.1) hO 24 #[] g 0 cap L.toArray w eg Rs hH hg (by simp;omega);refine main.mono ?_;rintro e w' ⟨rfl,d',n,os,Bt,hsr,rfl⟩;have hd:d'.toList=T:=by
  obtain ⟨h1,h2,h3⟩:=Bt;have hsz:d'.size=L.length:=by simpa using h1
  have ZM:d'.toList.Perm L:=by
   have e1:d'.extract 0 L.toArray.size=d':=by rw [show L.toArray.size=d'.size by simp [hsz]];simp
   rw [e1] at h3;simpa using h3
  refine (wI T d'.toList (hp.trans ZM.symm) hs ?_).symm;rw [List.pairwise_iff_getElem];intro i j hi hj hij;have:=hsr i j (Nat.zero_le _) hij (by simp at hj;simp;omega);rw [hlt] at this;simp only [decide_eq_false_iff_not] at this;have ei:d'[i]! = d'.toList[i]:=by simp at hi;simp [hi]
  have ej:d'[j]! = d'.toList[j]:=by simp at hj;simp [hj]
  rw [ei,ej] at this;exact this
 obtain ⟨h1,h2,h3⟩:=Bt;have hsz:d'.size=L.length:=by simpa using h1
 have hTl:T.length=L.length:=by rw [<- hd];simpa using hsz
 have hk:=holdsK_sortWorldK_c ym 2 w g 0 L.toArray d' n os hH hg (by simp [hsz]);refine ⟨rfl,fun i u hu => ?_,?_⟩
 ·have hi:i<T.length*2:=by
   have:=(List.getElem?_eq_some_iff.1 hu).1;rw [A8] at this;omega
  have e1:d'=T.toArray:=by rw [<- hd]
  have:=(hk i (by rw [size_flatK,hsz];omega)).1;rw [Nat.zero_add] at this;rw [this,<- hu,e1,A7 T i hi];rfl
 ·have gb:w.grownBy (sortWorldK ym 2 w g 0 n d' os) (some g):=nv (enc:=id) (w:=w) (g:=g) (n:=n) (os:=os) (flatK ym 2 d');exact (Fr.refl (Only g) w).grown gb (fun j hj _=>by cases hj;rfl)
def Lm (k:Ky) (m:Nat):List (Bs×Bs):=az k++(([(dW,k.alg),(cD,k.kid)]:List (Bs×Bs)).take m).flatMap (fun p=>kf p.1 p.2)
theorem TE (k:Ky):Lm k 2=az k++(kf dW k.alg++kf cD k.kid):=by simp [Lm]
theorem sorted_perm (k:Ky):(eI k).Perm (Lm k 2):=by
 rw [TE,List.perm_iff_count];intro x;unfold eI az;split
 ·simp only [List.count_append,List.count_cons,List.count_nil];omega
 ·split
  ·simp only [List.count_append,List.count_cons,List.count_nil];omega
  ·simp only [List.count_append,List.count_cons,List.count_nil];omega
theorem pY (nm t:Bs):(kf nm t).map (fun p=>p.1)=if t.isEmpty then [] else [nm]:=by unfold kf;split<;>rfl
theorem A9 (k:Ky):(eI k).Pairwise (fun a b=>a.1<b.1):=by
 rw [<- List.pairwise_map (f:=fun p:Bs×Bs=>p.1) (R:=fun a b=>a<b)];unfold eI;split
 ·simp only [List.map_append,pY,List.map_cons,List.map_nil];split<;>split<;>decide
 ·split
  ·simp only [List.map_append,pY,List.map_cons,List.map_nil];split<;>split<;>decide
  ·simp only [List.map_append,pY,List.map_cons,List.map_nil];split<;>split<;>decide
theorem pd {fn:Func} (h:fn.results = #[.cell 2 31,.tmp 3]) (tmps:Array Value) (w:World) (g:Nat) (v0 v1 v2 v3 v4:Value) (n:Value)
  (hp:tmps.getD 2 undef=.pointer (some ⟨g,0,none⟩)) (hq:tmps.getD 3 undef=n) (hb:Blk w g 31 #[v0,v1,v2,v3,v4]) :
  (results fn tmps).run Tryz.prog w=.ok (.tuple #[.agg #[v0,v1,v2,v3,v4],n]) w:=by
 have ph:tmps[2]?.getD undef=.pointer (some ⟨g,0,none⟩):=by simpa using hp
 have hq':tmps[3]?.getD undef=n:=by simpa using hq
 simp [results,h,ph,hq',asAddr,run_loadVar_row w g 31 31 _ (0,0) _ hb Tryz.underlying31 rfl ah]
theorem Dn {w:World} {lo g:Nat} {L:List (Bs×Bs)} (h:Blk w g 55 (iP L).toArray) (cN:lo<=g) (hl:L.length<=1000):w.ownsRow lo 55 2 (.slice (some ⟨g,0,none⟩) L.length L.length) L.length (iP L):=by
 have hlen:=A8 L;refine ⟨by omega,Or.inr ⟨g,L.length,(iP L).toArray,rfl,cN,h,Nat.le_refl _,by unfold maxLen;omega,by simp [hlen];omega,?_⟩⟩;exact List.take_of_length_le (by simp [hlen];omega)
theorem LY {w:World} {lo n:Nat} {v:Value} {xs:List Value} (h:w.ownsRow lo 55 2 v n xs) (hn:0<n) :
  ∃ g c,v=.slice (some ⟨g,0,none⟩) n c/\lo<=g/\g<w.heap.size/\(∀ (i:Nat) u,xs[i]?=some u->w.cell? ⟨g,i,none⟩=some u)/\(∀ i,w.frozen? ⟨g,i,none⟩=false):=by
 have hc:=@World.ownsRow.cells _ _ _ _ _ _ _ h;rcases h.2 with ⟨_,h0⟩|⟨g,cap,cur,rfl,hg,hh,_⟩
 ·omega
 ·refine ⟨g,cap,rfl,hg,lt_of_block hh,fun i u hu => ?_,fun i=>(show Blk w g 55 cur from hh).frozen i⟩;have:=hc (g:=g) rfl i u hu;rwa [bT,Nat.zero_add] at this
theorem lL (k:Ky):(az k).length<=4:=by
 unfold az;split
 ·simp
 ·split<;>simp
theorem TF (k:Ky) (m:Nat) (h:m<=2):(Lm k m).length<=6:=by
 have h1:=lL k;have:∀ nm t:Bs,(kf nm t).length<=1:=fun nm t=>by unfold kf;split<;>simp
 have ha:=this dW k.alg;have hi:=this cD k.kid
 match m,h with
 | 0,_=>simp [Lm];omega
 | 1,_=>simp [Lm];omega
 | 2,_=>simp [Lm];omega
theorem pg {s:Bs} (h:s.length<=lot):(aX s).length<=big:=by rw [dO];unfold lot at h;unfold big;omega
theorem Dp {k:Ky} (h:KySm k):∀ p∈eI k,p.1.length<=big/\p.2.length<=big:=by
 have hb:∀ n:Nat,n<=lot->n<=big:=fun n hn=>by unfold lot at hn;unfold big;omega
 have ho:∀ nm t:Bs,nm.length<=3->t.length<=lot->∀ p∈kf nm t,p.1.length<=big/\p.2.length<=big:=fun nm t h1 h2 p hp=>by
  unfold kf at hp;split at hp
  ·cases hp
  ·simp at hp;subst hp;exact ⟨by unfold big;simp;omega,hb _ h2⟩
 have oa:=ho dW k.alg (by decide) h.alg;have oi:=ho cD k.kid (by decide) h.kid;have n1:=pg h.n;have n2:=pg h.e;have n3:=pg h.x;have n4:=pg h.y;have n5:=pg h.sec;have c:∀ s:Bs,s.length<=5->s.length<=big:=fun s hs=>by unfold big;omega
 intro p hp;unfold eI at hp;split at hp
 ·simp only [List.mem_append,List.mem_cons,List.not_mem_nil,or_false] at hp;rcases hp with ((hp|rfl)|hp)|rfl|rfl
  ·exact oa p hp
  ·exact ⟨c _ (Nat.le_of_ble_eq_true rfl),n2⟩
  ·exact oi p hp
  ·exact ⟨c _ (Nat.le_of_ble_eq_true rfl),c _ (Nat.le_of_ble_eq_true rfl)⟩
  ·exact ⟨c _ (Nat.le_of_ble_eq_true rfl),n1⟩
 ·split at hp
  ·simp only [List.mem_append,List.mem_cons,List.not_mem_nil,or_false] at hp;rcases hp with ((hp|rfl)|hp)|rfl|rfl|rfl
   ·exact oa p hp
   ·exact ⟨c _ (Nat.le_of_ble_eq_true rfl),c _ (Nat.le_of_ble_eq_true rfl)⟩
   ·exact oi p hp
   ·exact ⟨c _ (Nat.le_of_ble_eq_true rfl),c _ (Nat.le_of_ble_eq_true rfl)⟩
   ·exact ⟨c _ (Nat.le_of_ble_eq_true rfl),n3⟩
   ·exact ⟨c _ (Nat.le_of_ble_eq_true rfl),n4⟩
  ·simp only [List.mem_append,List.mem_cons,List.not_mem_nil,or_false] at hp;rcases hp with ((hp|rfl)|hp)|rfl
   ·exact oa p hp
   ·exact ⟨c _ (Nat.le_of_ble_eq_true rfl),n5⟩
   ·exact oi p hp
   ·exact ⟨c _ (Nat.le_of_ble_eq_true rfl),c _ (Nat.le_of_ble_eq_true rfl)⟩
theorem Pp (k:Ky) (m:Nat) (h:m<2):Lm k (m+1)=Lm k m++kf ([(dW,k.alg),(cD,k.kid)]:List (Bs×Bs))[m].1 ([(dW,k.alg),(cD,k.kid)]:List (Bs×Bs))[m].2:=by
 match m,h with
 | 0,_=>simp [Lm]
 | 1,_=>simp [Lm]
theorem TG (k:Ky) (m:Nat):0<(Lm k m).length:=by
 have:0<(az k).length:=by
  unfold az;split
  ·simp
  ·split<;>simp
 simp only [Lm,List.length_append];omega
theorem Io (L:List (Bs×Bs)) (p:Bs×Bs):iP (L++[p])=iP L++[sV p.1,sV p.2]:=by simp [iP]
theorem vl (k:Ky) (w:World) (eK:KySm k) :
  Calls Tryz.prog 8 #[.agg (aR k)] w fun e w'=>∃ u,e=.returned (.tuple #[u,.int .i64 (if cI k then 0 else 100)])/\aG (lB w.heap.size w'.heap.size) w' (if cI k then lr k else Jv.pq) u/\Fr NoB w w':=by
 have b0:=(Blk.new w 27 (aR k)).alloc (.cells zj 31);have bj:Blk ((w.alloc (.cells (aR k) 27)).alloc (.cells zj 31)) (w.heap.size+1) 31 zj:=by
  have:=Blk.new (w.alloc (.cells (aR k) 27)) 31 zj;simpa using this
 have f0:Fr NoB w ((w.alloc (.cells (aR k) 27)).alloc (.cells zj 31)):=((Fr.refl _ _).alloc _).alloc _;have KC:Hid (∀ u,Calls Tryz.prog 12 #[.agg (aR k)] u fun e w'=>e=.returned (.int .i64 (if cI k then 0 else 100))/\Fr NoB u w'):=hd' (fun u=>kI k u eK);cases gi:cI k with
 | false=>
  rw [gi] at KC;obtain ⟨kty,kid,alg,n,e,x,y,sec⟩:=k;clear gi;go_enter Tryz.func8,Tryz.ntmps8;go_upto_region 1 with fail;generalize (w.alloc (.cells (aR ⟨kty,kid,alg,n,e,x,y,sec⟩) 27)).alloc (.cells zj 31)=W at *;have q0:W.cell? ⟨w.heap.size,0,none⟩=some (.int .i64 kty):=(b0.cell 0).trans rfl;have q1:W.cell? ⟨w.heap.size,1,none⟩=some (.string ⟨kid.toArray⟩):=(b0.cell 1).trans rfl;have q2:W.cell? ⟨w.heap.size,2,none⟩=some (.string ⟨alg.toArray⟩):=(b0.cell 2).trans rfl;have q3:W.cell? ⟨w.heap.size,3,none⟩=some (.string ⟨n.toArray⟩):=(b0.cell 3).trans rfl;have q4:W.cell? ⟨w.heap.size,4,none⟩=some (.string ⟨e.toArray⟩):=(b0.cell 4).trans rfl;have q5:W.cell? ⟨w.heap.size,5,none⟩=some (.string ⟨x.toArray⟩):=(b0.cell 5).trans rfl;have q6:W.cell? ⟨w.heap.size,6,none⟩=some (.string ⟨y.toArray⟩):=(b0.cell 6).trans rfl;have q7:W.cell? ⟨w.heap.size,7,none⟩=some (.string ⟨sec.toArray⟩):=(b0.cell 7).trans rfl;have dw:(zj.all (·.oneCell'))=true:=bU _ _ _ _ _ _ _ _ _;go_wp2_with (first|(go_at_call 12;((with_reducible refine (KC.out _).mono ?_);rintro e w1 ⟨rfl,f1⟩;have Qv:=f1.blk bj id))|(refine wpList_store_row rfl 31 _ _ rfl (w.heap.size+1) zj rfl rfl 31 zj Qv ah rfl dw ?_));exact bodyPost_ret (v:=.tuple #[jV 0 0 [] (.slice none 0 0) (.slice none 0 0),.int .i64 100]) (pd rfl _ _ (w.heap.size+1) _ _ _ _ _ _ rfl rfl (Qv.setRow zj)) rfl ⟨_,rfl,xZ _ _,(f0.trans f1).setRow (w.heap.size+1) _ (Or.inl (by omega))⟩
 | true=>
  rw [gi] at KC;have KM:Hid (∀ u,Calls Tryz.prog 22 #[.agg (aR k)] u fun e w'=>∃ g,e=.returned (.slice (some ⟨g,0,none⟩) (az k).length (az k).length)/\u.heap.size<=g/\Blk w' g 55 (iP (az k)).toArray/\Fr NoB u w'):=hd' (fun u=>ql k u (J2 gi) eK);have hML:=lL k;have WW:=hd' (Pp k);have HLL:=hd' (TF k);have HLP:=hd' (TG k);have HPM:=hd' (sorted_perm k);have HRI:=hd' (A9 k);have HBG:=hd' (Dp eK);have Zo:Hid (lr k=cE (eI k)):=hd' rfl;have HL0:Hid (Lm k 0=az k):=hd' (by simp [Lm]);obtain ⟨i1,IG,nw,um,yy⟩:=info_parts Ba;generalize hval:lr k=VK at *;generalize eI k=T at *;generalize az k=M0 at *;generalize hLm:Lm k=LM at *;obtain ⟨kty,kid,alg,n,e,x,y,sec⟩:=k;clear gi eK hval hLm;simp only at WW;go_enter Tryz.func8,Tryz.ntmps8;go_upto_region 1 with fail;generalize (w.alloc (.cells (aR ⟨kty,kid,alg,n,e,x,y,sec⟩) 27)).alloc (.cells zj 31)=W at *;have q0:W.cell? ⟨w.heap.size,0,none⟩=some (.int .i64 kty):=(b0.cell 0).trans rfl;have q1:W.cell? ⟨w.heap.size,1,none⟩=some (.string ⟨kid.toArray⟩):=(b0.cell 1).trans rfl;have q2:W.cell? ⟨w.heap.size,2,none⟩=some (.string ⟨alg.toArray⟩):=(b0.cell 2).trans rfl;have q3:W.cell? ⟨w.heap.size,3,none⟩=some (.string ⟨n.toArray⟩):=(b0.cell 3).trans rfl;have q4:W.cell? ⟨w.heap.size,4,none⟩=some (.string ⟨e.toArray⟩):=(b0.cell 4).trans rfl;have q5:W.cell? ⟨w.heap.size,5,none⟩=some (.string ⟨x.toArray⟩):=(b0.cell 5).trans rfl;have q6:W.cell? ⟨w.heap.size,6,none⟩=some (.string ⟨y.toArray⟩):=(b0.cell 6).trans rfl;have q7:W.cell? ⟨w.heap.size,7,none⟩=some (.string ⟨sec.toArray⟩):=(b0.cell 7).trans rfl;have HQ:Hid (∀ u,Fr NoB W u->u.cell? ⟨w.heap.size,0,none⟩=some (.int .i64 kty)/\u.cell? ⟨w.heap.size,1,none⟩=some (.string ⟨kid.toArray⟩)/\u.cell? ⟨w.heap.size,2,none⟩=some (.string ⟨alg.toArray⟩)/\u.cell? ⟨w.heap.size,3,none⟩=some (.string ⟨n.toArray⟩)/\u.cell? ⟨w.heap.size,4,none⟩=some (.string ⟨e.toArray⟩)/\u.cell? ⟨w.heap.size,5,none⟩=some (.string ⟨x.toArray⟩)/\u.cell? ⟨w.heap.size,6,none⟩=some (.string ⟨y.toArray⟩)/\u.cell? ⟨w.heap.size,7,none⟩=some (.string ⟨sec.toArray⟩)):=hd' (fun u f=>⟨f.eD q0,f.eD q1,f.eD q2,f.eD q3,f.eD q4,f.eD q5,f.eD q6,f.eD q7⟩);have Uj:w.heap.size+2<=W.heap.size:=by have:=bj.lt;omega
  go_upto_region 4 with (go_at_call 12;((with_reducible refine (KC.out _).mono ?_);rintro er w1 ⟨rfl,f1⟩));obtain ⟨r0,r1,r2,r3,r4,r5,r6,r7⟩:=HQ.out w1 f1;clear q0 q1 q2 q3 q4 q5 q6 q7 KC;go_upto_region 5 with (go_at_call 22;((with_reducible refine (KM.out _).mono ?_);rintro er w2 ⟨g,rfl,hgs,VS,f2⟩));obtain ⟨r0,r1,r2,r3,r4,r5,r6,r7⟩:=HQ.out w2 (f1.trans f2);have XE:=Dn (lo:=w.heap.size+2) VS (by have:=f1.size;omega) (by omega);have bj2:=(f1.trans f2).blk bj id;have F2:=f0.trans (f1.trans f2);have Bk:=VS.lt;clear KM VS b0 bj f0;have gO:=Blk.new w2 55 #[.string ⟨#[97,108,103]⟩,.string ⟨alg.toArray⟩,.string ⟨#[107,105,100]⟩,.string ⟨kid.toArray⟩];have fO:Fr NoB w2 (w2.alloc (.cells #[.string ⟨#[97,108,103]⟩,.string ⟨alg.toArray⟩,.string ⟨#[107,105,100]⟩,.string ⟨kid.toArray⟩] 55)):=(Fr.refl _ _).alloc _;go_upto_region 6 with fail;generalize w2.alloc (.cells #[.string ⟨#[97,108,103]⟩,.string ⟨alg.toArray⟩,.string ⟨#[107,105,100]⟩,.string ⟨kid.toArray⟩] 55)=W3 at *;have OC:=fO.row XE (fun _ _ e=>e);have bj3:=fO.blk bj2 id;have F3:=F2.trans fO;obtain ⟨GO,hGO⟩:∃ GO,GO=w2.heap.size:=⟨_,rfl⟩;rw [<- hGO] at gO Bk ⊢;have HCO:Hid (∀ (u:World),Blk u GO 55 #[.string ⟨#[97,108,103]⟩,.string ⟨alg.toArray⟩,.string ⟨#[107,105,100]⟩,.string ⟨kid.toArray⟩]->∀ (m:Nat) (h:m<2),u.cell? ⟨GO,m*2,none⟩=some (sV ([(dW,alg),(cD,kid)]:List (Bs×Bs))[m].1)/\u.cell? ⟨GO,m*2+1,none⟩=some (sV ([(dW,alg),(cD,kid)]:List (Bs×Bs))[m].2)):=hd' (fun u hb m h=>by
   match m,h with
   | 0,_=>exact ⟨(hb.cell 0).trans rfl,(hb.cell 1).trans rfl⟩
   | 1,_=>exact ⟨(hb.cell 2).trans rfl,(hb.cell 3).trans rfl⟩)
  have hGl:w.heap.size+2<=GO:=by have:=f1.size;have:=f2.size;omega
  clear r0 r1 r2 r3 r4 r5 r6 r7 HQ XE bj2 fO F2 hGO f1 f2 hgs;go_loopw [5,24] (fun v5 v24 wr=>∃ m:Nat,m<=2/\v24=.int .i64 m/\wr.ownsRow (w.heap.size+2) 55 2 v5 (LM m).length (iP (LM m))/\(∀ j,v5.ownBlock=some j->j≠GO)/\Blk wr GO 55 #[.string ⟨#[97,108,103]⟩,.string ⟨alg.toArray⟩,.string ⟨#[107,105,100]⟩,.string ⟨kid.toArray⟩]/\Blk wr (w.heap.size+1) 31 zj/\Fr NoB w wr) (fun _ v24 _=>2 - (intOf v24).toNat)
  case atStart=>exact ⟨0,by omega,rfl,by rw [HL0.out];exact OC,fun j hj=>by simp [Value.ownBlock] at hj;omega,gO,bj3,F3⟩
  case round=>
   clear OC gO bj3 F3 HL0 Bk;obtain ⟨m,hm,rfl,hown,hne,Ns,Zp,hf⟩:=hrel;have dd:=HLL.out m hm;by_cases hlt:m<2
   ·(have k1:(0:Int)<=m:=by omega);(have k2:(m:Int)<2:=by omega);obtain ⟨e0,e1⟩:=HCO.out wr Ns m hlt;have HN:=hd' (WW.out m hlt);clear WW HCO;generalize ([(dW,alg),(cD,kid)]:List (Bs×Bs))[m]=p at *;obtain ⟨nm,tx⟩:=p;simp only at e0 e1 HN;go_upto_region 8 with fail;have b1:=Blk.new wr 55 #[.string ⟨nm.toArray⟩,.string ⟨tx.toArray⟩];have fm:Fr NoB wr (wr.alloc (.cells #[.string ⟨nm.toArray⟩,.string ⟨tx.toArray⟩] 55)):=(Fr.refl _ _).alloc _;have Qw:=fm.row hown (fun _ _ e=>e);have XF:=fm.blk Ns id;have XG:=fm.blk Zp id;have hfU:=hf.trans fm;have HSU:Hid ((wr.alloc (.cells #[.string ⟨nm.toArray⟩,.string ⟨tx.toArray⟩] 55)).heap.size=wr.heap.size+1):=hd' (by simp);have cN:∀ j,u5.ownBlock=some j->w.heap.size+2<=j/\j<wr.heap.size:=fun j hj=>hown.lt j hj;have akL:=Ns.lt;clear hown Ns Zp hf fm;generalize wr.alloc (.cells #[.string ⟨nm.toArray⟩,.string ⟨tx.toArray⟩] 55)=U at *;have m0:U.cell? ⟨wr.heap.size,0,none⟩=some (sV nm):=(b1.cell 0).trans rfl;have m1:U.cell? ⟨wr.heap.size,1,none⟩=some (sV tx):=(b1.cell 1).trans rfl;clear e0 e1;by_cases ht:tx=[]
    ·subst ht;(have EN:LM (m+1)=LM m:=by rw [HN.out];simp [kf]);go_wp2_with fail;go_roundw
     case rel=>exact ⟨m+1,by omega,by simp,by rw [EN];exact Qw,hne,XF,XG,hfU⟩
     case measure=>simp [intOf];omega
    ·have EN:LM (m+1)=LM m++[(nm,tx)]:=by rw [HN.out];cases tx with|nil=>exact absurd rfl ht|cons a b=>rfl
     have IE:=hd' EN;have hte:tx.isEmpty=false:=by cases tx with|nil=>exact absurd rfl ht|cons a b=>rfl
     have akM:(tx==[])=false:=by cases tx with|nil=>exact absurd rfl ht|cons a b=>rfl
     clear EN;generalize LM m=Lc at *;(have hgU:w.heap.size+2<=U.heap.size:=by have:=HSU.out;omega);have dq:=((Fr.refl NoB U).alloc (.cells #[.string ⟨nm.toArray⟩,.string ⟨tx.toArray⟩] 55)).row Qw (fun _ _ e=>e);go_wp2_with (at_builtin;go_loud (refine wpList_append_lies _ rfl _ _ 52 rfl (w.heap.size+2) 55 i1 (.agg #[.string ⟨#[]⟩,.string ⟨#[]⟩]) 2 32 Tryz.underlying52 IG nw um yy rfl (by decide) u5 Lc.length (iP Lc) rfl dq ⟨U.heap.size,0,none⟩ 1 1 [sV nm,sV tx] rfl rfl (World.news_of_block (cs := #[sV nm,sV tx]) (t:=55) (fr:=(0,0)) (heap_alloc_new U _)) (by intro u hu;simp only [List.mem_cons,List.not_mem_nil,or_false] at hu;rcases hu with rfl|rfl<;>rfl) (by omega) (by unfold maxLen;omega) (by omega) (by simp;omega) (U.heap.size+1) (by simp) ?_;intro g' cap' wl hown hgr hat qF));have fA:Fr NoB w wl:=(hfU.alloc _).grown hgr (fun j hj hl=>absurd (cN j hj).1 (by omega));have fB:Fr (fun j=>u5.ownBlock=some j) U wl:=((Fr.refl _ U).alloc _).grown hgr (fun j hj _=>hj);have acW:=fB.blk XF (fun e=>hne _ e rfl);have acX:=fB.blk XG (fun e=>by have:=(cN _ e).1;omega);have HOW:Hid (wl.ownsRow (w.heap.size+2) 55 2 (.slice (some ⟨g',0,none⟩) (Lc.length+1) cap') (LM (m+1)).length (iP (LM (m+1)))):=hd' (by rw [IE.out,Io,List.length_append];exact hown);have Wl:Hid (∀ j,(Value.slice (some ⟨g',0,none⟩) (Lc.length+1) cap').ownBlock=some j->j≠GO):=hd' (fun j hj=>by
      simp [Value.ownBlock] at hj;subst hj;rcases hat with hat|hat
      ·exact hne _ hat
      ·have:=HSU.out;omega)
     clear hown hgr hat dq fB;go_roundw
     case rel=>exact ⟨m+1,by omega,by simp,HOW.out,Wl.out,acW,acX,fA⟩
     case measure=>simp [intOf];omega
   ·obtain rfl:m=2:=by omega
    have TI:=HPM.out;have xp:=HLP.out 2;have YU:T.length=(LM 2).length:=TI.length_eq;clear WW HLL HLP HCO hne Ns;generalize LM 2=L at *;obtain ⟨gs,cs,rfl,akN,XH,hcell,Jd⟩:=LY hown xp;have OD:=hd' YU;have KS:=hd' (Im L T gs cs wr XH (by omega) hcell (fun i _=>Jd i) TI HRI.out);have KO:Hid (∀ u,(∀ (i:Nat) x,(iP T)[i]?=some x->u.cell? ⟨gs,i,none⟩=some x)->gs<u.heap.size->Calls Tryz.prog 26 #[.slice (some ⟨gs,0,none⟩) L.length cs] u fun e w'=>∃ v,e=.returned v/\aG (lB u.heap.size w'.heap.size) w' VK v/\Fr NoB u w'):=hd' (fun u hu hg=>by
     have:=sD T (.slice (some ⟨gs,0,none⟩) L.length cs) u (by rw [OD.out];exact Or.inr ⟨gs,0,cs,rfl,hg,fun i x hx=>by rw [Nat.zero_add];exact hu i x hx⟩) (by omega) HBG.out;rw [Zo.out];exact this)
    have akO:=Zp.lt;clear hown hcell Jd YU TI HPM HRI HBG Zo;go_wp2_with (first|(go_at_call 23;((with_reducible refine KS.out.mono ?_);rintro er w5 ⟨rfl,h5,f5⟩;have bj5:=f5.blk Zp (fun e=>by have e':w.heap.size+1=gs:=e;omega);have PN:=Nat.lt_of_lt_of_le XH f5.size))|(go_at_call 26;((with_reducible refine (KO.out _ h5 PN).mono ?_);rintro er w6 ⟨v,rfl,hat,f6⟩;obtain ⟨v0,v1,v2,v3,v4,rfl,dw⟩:=hat.form;have bj6:=f6.blk bj5 id))|(refine wpList_store_row rfl 31 _ _ rfl (w.heap.size+1) #[v0,v1,v2,v3,v4] rfl rfl 31 zj bj6 ah rfl dw ?_));have F6:Fr NoB w w6:=(hf.andThen f5 (fun j hj e=>by have e':j=gs:=e;omega)).trans f6;exact bodyPost_ret (v:=.tuple #[.agg #[v0,v1,v2,v3,v4],.int .i64 0]) (pd rfl _ _ (w.heap.size+1) _ _ _ _ _ _ rfl rfl (bj6.setRow _)) rfl ⟨_,rfl,aG.mono (fun j hj=>⟨by have:=hj.1;have:=hf.size;have:=f5.size;omega,by simpa [World.setRow] using hj.2⟩) _ _ (aG.fr (fun j hj=>setRow_other _ _ _ _ (by have:=hj.1;have:=f5.size;omega)) _ _ hat),F6.setRow (w.heap.size+1) _ (Or.inl (by omega))⟩
end Go.Proofs.YtbifjamddbpcjaaGreatDoor
