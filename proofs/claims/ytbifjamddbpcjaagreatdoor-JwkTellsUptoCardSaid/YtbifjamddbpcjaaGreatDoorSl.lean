/- A region that draws its order, by one plan: which operations are taken first, and where a call or a store comes up. One closed fact for the whole plan. -/
import Derived.Test.YtbifjamddbpcjaaGreatDoorSe
namespace Go.Proofs.YtbifjamddbpcjaaGreatDoor
set_option maxRecDepth 100000
set_option maxHeartbeats 25600000
open Go.RowKit
section
variable {P:Program} {ops:Array Oper} {Q:Exit->Act->World->Prop} {md:Region.Mode} {S:World->Prop}
def nD (md:Region.Mode) (ops:Array Oper):List (Bool×Nat)->Array Bool->Bool
 | [],l=>(Region.ready md ops l).isEmpty
 | (true,i)::r,l=>Region.free md ops l i&&(Region.ready md ops l).contains i&&nD md ops r (l.setIfInBounds i true)
 | (false,i)::r,l=>(Region.ready md ops l==[i])&&nD md ops r (l.setIfInBounds i true)
def sW (P:Program) (ops:Array Oper) (Q:Exit->Act->World->Prop) (S:World->Prop):List (Bool×Nat)->Act->World->Prop
 | [],a,w=>Q .normal a w
 | (true,i)::r,a,w=>∃ o v,ops[i]?=some o/\YieldsIf P ops S o v a/\sW P ops Q S r (a.put o.dst v) w
 | (false,i)::r,a,w=>wpOp P ops Q i (fun a' w'=>S w'/\sW P ops Q S r a' w') a w
theorem sX (hs:Region.noSelect ops=true) (hQ:∀ c a d v w,Q (.panic c) (a.put d v) w->Q (.panic c) a w):∀ (Ac:List (Bool×Nat)) (l:Array Bool) (a:Act) (w:World),nD md ops Ac l=true->S w->sW P ops Q S Ac a w->wpAnyH P md ops Q S Ac.length l a w
 | [],l,a,w,hp,_,h=>wpAnyH_done (by simpa [nD] using hp) h _
 | (true,i)::r,l,a,w,hp,hS,⟨o,v,ho,hy,h⟩=>by
  simp only [nD,Bool.and_eq_true] at hp;exact wpAnyH_take ho hs hp.1.1 hp.1.2 (fun c a w h=>hQ c a _ _ w h) hy hS (sX hs hQ r _ _ w hp.2 hS h)
 | (false,i)::r,l,a,w,hp,_,h=>by
  simp only [nD,Bool.and_eq_true] at hp;have he:Region.ready md ops l=[i]:=by simpa using hp.1
  refine wpAnyH_all he (by simp) (fun j hj => ?_);obtain rfl:j=i:=by simpa using hj
  exact wpOp_mono (fun a' w' ⟨h1,h2⟩=>⟨h1,sX hs hQ r _ a' w' hp.2 h1 h2⟩) h
theorem cd {id:Nat} {a:Act} {w:World} (Ac:List (Bool×Nat)) (hl:Ac.length=ops.size) (hp:nD .any ops Ac (Array.replicate ops.size false)=true) (hs:Region.noSelect ops=true) (hm:P.follows .mixedOrders=true)
  (hQ:∀ c a d v w,Q (.panic c) (a.put d v) w->Q (.panic c) a w) (hS:S w.drew) (h:sW P ops Q S Ac a w.drew):(Code.region id ops true).wp P Q a w:=
 wp_region_held_drew hm hS (fun Wd=>by
  have h1:=sX hs hQ Ac _ a _ hp Wd h;rwa [hl] at h1)
theorem aN {i:Nat} {o:Oper} {v:Value} {r:List (Bool×Nat)} {a:Act} {w:World} (ho:ops[i]?=some o) (hy:YieldsIf P ops S o v a) (h:sW P ops Q S r (a.put o.dst v) w):sW P ops Q S ((true,i)::r) a w:=⟨o,v,ho,hy,h⟩
theorem cX {i:Nat} {o:Oper} {r:List (Bool×Nat)} {a:Act} {w:World} (ho:ops[i]?=some o)
  (h:∀ K':Act->World->Prop,Shut (∀ a w,S w->sW P ops Q S r a w->K' a w)->if Region.wanted o (yielded ops a.tmps)=true then Oper.wp P o a w K' Q else K' (a.put o.dst undef) w):sW P ops Q S ((false,i)::r) a w:=
 wpOp_step ho (fun K' hK=>h K' (fun a w h1 h2=>hK a w ⟨h1,h2⟩))
theorem dG {a:Act} {w:World} (h:Q .normal a w):sW P ops Q S [] a w:=h
end
theorem A5:(∀ (l:List Oper) (i:Nat),l.toArray[i]?=l[i]?)/\(∀ (a:Oper) (l:List Oper),(a::l)[0]?=some a)/\(∀ (a:Oper) (l:List Oper) (i:Nat),(a::l)[i+1]?=l[i]?):=
 ⟨fun _ _=>List.getElem?_toArray ..,fun _ _=>rfl,fun _ _ _=>rfl⟩
theorem ia {ops:Array Oper} {S:World->Prop} {o:Oper} {a:Act} {g:Nat} {A B:Value} (hS:∀ u,S u->Blk u g 104 (kndC A B)) (hw:Region.wanted o (yielded ops a.tmps)=true) (x:Operand) (ho:o.op=.load 104 x) (hx:a.eval x=.pointer (some ⟨g,0,none⟩)):YieldsIf Tryz.prog ops S o (.agg (kndC A B)) a:=
 .inl ⟨hw,fun u hu=>by
  unfold execOp;simp only [ho,hx,Sem.run_bind,Jb (hS u hu),Result.andThen_ok,Sem.run_pure]⟩
theorem dH (vK vF:Value) (x n:Nat) (w:World) (hx:x<4294967296) (hn:n<=32) :
  Calls Tryz.prog 115 #[.agg (kndC vK vF),.int .u64 x,.int .i64 n] w fun e w'=>e=.returned (dV .u64 (jz x n))/\Fr NoB w w':=by
 obtain ⟨q,hq⟩:∃ q,q=x / 2 ^ n:=⟨_,rfl⟩;obtain ⟨t,ht⟩:∃ t,t=x*2 ^ (32 - n):=⟨_,rfl⟩;obtain ⟨o,ho⟩:∃ o,o=q ||| t:=⟨_,rfl⟩
 have tZ:q<4294967296:=by rw [hq];exact Nat.lt_of_le_of_lt (Nat.div_le_self _ _) hx
 have Bm:t<18446744073709551616:=by
  rw [ht];have h1:2 ^ (32 - n)<=2 ^ 32:=Nat.pow_le_pow_right (by decide) (by omega);have h2:x*2 ^ (32 - n)<=4294967295*2 ^ 32:=Nat.mul_le_mul (by omega) h1;omega
 have Br:o<18446744073709551616:=by rw [ho];exact Nat.or_lt_two_pow (n:=64) (by omega) (by omega)
 have e1:=Nf q t o tZ Bm ho;have HC:=hd' (fun u=>iR vK vF o u Br);have HR:Hid (jz x n=o % 4294967296):=hd' (by unfold jz;rw [ho,hq,ht]);generalize jz x n=res at *;have b0:=Blk.new w 104 (kndC vK vF);have f0:Fr NoB w (w.alloc (.cells (kndC vK vF) 104)):=(Fr.refl _ _).alloc _;clear ho Br;have k0:(0:Int)<=n:=by omega
 have k1:(0:Int)<=32 - n:=by omega
 have k2:(32 - (n:Int)).toNat=32 - n:=by omega
 have k3:IntKind.i64.wrap (32 - (n:Int))=32 - (n:Int):=IntWalk.i64_in _ (by omega);have hv:(x:Int) / 2 ^ n=(q:Int):=by rw [hq,Int.natCast_ediv,Int.natCast_pow];rfl
 have hp:(x:Int)*2 ^ (32 - n)=(t:Int):=by rw [ht,Int.natCast_mul,Int.natCast_pow];rfl
 have hu:IntKind.u64.wrap (t:Int)=(t:Int):=by rw [IntKind.wrap_u64];omega
 have zo:(t:Int) % 18446744073709551616=(t:Int):=by omega
 clear hq ht hn;go_enter Tryz.func115,Tryz.ntmps115;go_upto_region 1 with fail;generalize w.alloc (.cells (kndC vK vF) 104)=W at *;obtain ⟨T,hT⟩:∃ T:World->Prop,Sat T=fun u=>Fr NoB W u:=⟨fun u=>Fr NoB W u,rfl⟩;have ID:Hid (Sat T W.drew):=hd' (by rw [hT];exact (Fr.refl _ _).drew);have kM:Hid (∀ v v1,Sat T v->Fr NoB v v1->Sat T v1):=hd' (fun v v1 h f=>by rw [hT] at h ⊢;exact Fr.trans h f);have yA:Hid (∀ v,Sat T v->Fr NoB W v):=hd' (fun v h=>by rw [hT] at h;exact h);have q0:∀ u,Sat T u->u.cell? ⟨w.heap.size,0,none⟩=some (.int .i64 32):=fun u h=>by
  rw [hT] at h;exact ((h.blk b0 (fun e=>e)).cell 0).trans rfl
 have qQ:Hid (∀ u,Sat T u->Blk u w.heap.size 104 (kndC vK vF)):=hd' (fun u h=>by
  rw [hT] at h;exact h.blk b0 (fun e=>e))
 clear hT b0;have qs:=ID.out;refine wp_region_noPanic (cd (S:=Sat T) [(true,0),(true,1),(true,2),(true,3),(true,4),(true,5),(true,6),(true,7),(true,8),(true,9),(true,10),(false,11),(true,12)] rfl (by as_aux_lemma=>kernel_rfl) (by as_aux_lemma=>kernel_rfl) (by kernel_rfl) (fun _ _ _ _ _ h=>h) ID.out ?_);iterate 13 (first
  | (refine aN (by simp only [A5];rfl) (ia qQ.out (by rfl) _ rfl rfl) ?_;(try simp only [A4]))
  | (refine aN (v := ?_) (by simp only [A5];rfl) (Or.inl ⟨by rfl,?_⟩) ?_;rotate_left;(· intro u hu;(go_simp<;>with_reducible rfl));(try simp only [A4]))
  | (refine cX (by simp only [A5];rfl) (fun K hK => ?_);go_simp;(try go_wp2_with (go_at_call 114;(with_reducible refine (HC.out _).mono ?_);rintro er v1 ⟨rfl,t1⟩;(with_reducible have q2:Sat T v1:=kM.out _ _ (by assumption) t1)));refine hK.out _ _ ?_ ?_;(· with_reducible assumption);clear hK K;(try simp only [A4])))
 refine dG (NoPanic.normal ?_);go_wp2_with fail;go_ret;exact ⟨by rw [HR.out];rfl,f0.trans (yA.out _ q2)⟩
end Go.Proofs.YtbifjamddbpcjaaGreatDoor
