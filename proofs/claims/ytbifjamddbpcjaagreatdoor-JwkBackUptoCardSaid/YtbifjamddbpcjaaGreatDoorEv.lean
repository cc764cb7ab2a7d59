/- P-256, the program's: of, Check. -/
import Derived.Test.YtbifjamddbpcjaaGreatDoorEo
import Derived.Test.YtbifjamddbpcjaaGreatDoorEa
namespace Go.Proofs.YtbifjamddbpcjaaGreatDoor
set_option maxRecDepth 100000
set_option maxHeartbeats 25600000
open Go.RowKit
theorem b_words:numC curveB = #[.int .u64 4309448131093880907,.int .u64 7285987128567378166,.int .u64 12964664127075681980,.int .u64 6540974713487397863]:=by simp [wds,curveB]
section
variable {P:Program} {L:List Oper} {Q:Exit→Act→World→Prop} {md:Region.Mode} {S:World→Prop}
theorem takeL (i:Nat) (d:Option Tmp) (v:Value) {oi:Oper} {fuel:Nat} {listed:Array Bool} {a:Act} {w:World} (hi:L[i]?=some oi) (hd:oi.dst=d) (hs:Region.noSelect L.toArray=true) (hf:Region.free md L.toArray listed i=true)
  (hr:(Region.ready md L.toArray listed).contains i=true) (hQ:∀ c a w,Q (.panic c) (a.put d v) w→Q (.panic c) a w) (hw:Region.wanted oi (yielded L.toArray a.tmps)=true) (hy:∀ w,S w→(execOp a.eval oi).run P w=.ok (.value v) w) (hS:S w)
  (h:wpAnyH P md L.toArray Q S fuel (listed.setIfInBounds i true) (a.put d v) w):wpAnyH P md L.toArray Q S (fuel+1) listed a w:=by
 subst hd
 exact wpAnyH_take (by simpa using hi) hs hf hr hQ (Or.inl ⟨hw,hy⟩) hS h
theorem skipL (i:Nat) (d:Option Tmp) {oi:Oper} {fuel:Nat} {listed:Array Bool} {a:Act} {w:World} (hi:L[i]?=some oi) (hd:oi.dst=d) (hs:Region.noSelect L.toArray=true) (hf:Region.free md L.toArray listed i=true)
  (hr:(Region.ready md L.toArray listed).contains i=true) (hQ:∀ c a w,Q (.panic c) (a.put d undef) w→Q (.panic c) a w) (hw:Region.wanted oi (yielded L.toArray a.tmps)=false) (hS:S w)
  (h:wpAnyH P md L.toArray Q S fuel (listed.setIfInBounds i true) (a.put d undef) w):wpAnyH P md L.toArray Q S (fuel+1) listed a w:=by
 subst hd
 exact wpAnyH_take (by simpa using hi) hs hf hr hQ (Or.inr ⟨hw,rfl⟩) hS h
theorem readyL (i:Nat) (d:Option Tmp) {oi:Oper} {fuel:Nat} {listed:Array Bool} {a:Act} {w:World} (hi:L[i]?=some oi) (hd:oi.dst=d) (hr:Region.ready md L.toArray listed=[i])
  (h:∀ K':Act→World→Prop,Shut (∀ a w,S w→(S w→wpAnyH P md L.toArray Q S fuel (listed.setIfInBounds i true) a w)→K' a w)→if Region.wanted oi (yielded L.toArray a.tmps)=true then Oper.wp P oi a w K' Q else K' (a.put d undef) w) :
  wpAnyH P md L.toArray Q S (fuel+1) listed a w:=by
 subst hd
 exact wpAnyH_ready hr (by simp) (AllReadyH.cons (by simpa using hi) h AllReadyH.nil)
end
section
variable {P:Program} {L:List Oper} {Q:Exit→Act→World→Prop} {md:Region.Mode} {S:World→Prop}
theorem takeM (i:Nat) (v:Value) {d:Option Tmp} {oi:Oper} {fuel:Nat} {listed:Array Bool} {a:Act} {w:World} (hi:L[i]?=some oi) (hd:oi.dst=d) (hb:(Region.noSelect L.toArray&&Region.free md L.toArray listed i&&(Region.ready md L.toArray listed).contains i)=true)
  (hQ:∀ c a w,Q (.panic c) (a.put d v) w→Q (.panic c) a w) (hw:Region.wanted oi (yielded L.toArray a.tmps)=true) (hy:∀ w,S w→(execOp a.eval oi).run P w=.ok (.value v) w) (hS:S w)
  (h:wpAnyH P md L.toArray Q S fuel (listed.setIfInBounds i true) (a.put d v) w):wpAnyH P md L.toArray Q S (fuel+1) listed a w:=by
 simp only [Bool.and_eq_true] at hb
 exact takeL i d v hi hd hb.1.1 hb.1.2 hb.2 hQ hw hy hS h
theorem skipM (i:Nat) {d:Option Tmp} {oi:Oper} {fuel:Nat} {listed:Array Bool} {a:Act} {w:World} (hi:L[i]?=some oi) (hd:oi.dst=d) (hb:(Region.noSelect L.toArray&&Region.free md L.toArray listed i&&(Region.ready md L.toArray listed).contains i)=true)
  (hQ:∀ c a w,Q (.panic c) (a.put d undef) w→Q (.panic c) a w) (hw:Region.wanted oi (yielded L.toArray a.tmps)=false) (hS:S w)
  (h:wpAnyH P md L.toArray Q S fuel (listed.setIfInBounds i true) (a.put d undef) w):wpAnyH P md L.toArray Q S (fuel+1) listed a w:=by
 simp only [Bool.and_eq_true] at hb
 exact skipL i d hi hd hb.1.1 hb.1.2 hb.2 hQ hw hS h
end
abbrev z12:Array Value := #[.int .u64 0,.int .u64 0,.int .u64 0,.int .u64 0,.int .u64 0,.int .u64 0,.int .u64 0,.int .u64 0,.int .u64 0,.int .u64 0,.int .u64 0,.int .u64 0]
theorem size_point:(Tryz.prog.info? 178).map (·.size)=some 12:=by kernel_rfl
theorem point_store {ops:Array Oper} {rest:List Oper} {o:Oper} {a:Act} {w:World} {Q:Exit→Act→World→Prop} (hgd:o.guard=none) (x y:Operand) (ho:o.op=.store 178 x y) (g:Nat) (L:List Nat) (hl:L.length=12) (hx:a.eval x=.pointer (some ⟨g,0,none⟩)) (hy:a.eval y=.agg (u64C L)) (old:Array Value) (hb:Blk w g 178 old) (ho4:old.size=12)
  (h:wpList Tryz.prog ops Q rest (a.put o.dst undef) (w.setRow g (u64C L))):wpList Tryz.prog ops Q (o::rest) a w:=
 wpList_store_row hgd 178 x y ho g (u64C L) hx hy 178 old hb (by rw [size_point,u64C_size,hl]) (by rw [ho4,u64C_size,hl]) (u64C_one _) h
theorem point_back2 (k u:Nat) {fn:Func} (h:fn.results = #[.cell k 178,.tmp u]) (tmps:Array Value) (w:World) (g:Nat) (L:List Nat) (hl:L.length=12) (v:Value) (hp:tmps.getD k undef=.pointer (some ⟨g,0,none⟩)) (hv:tmps.getD u undef=v) (hb:Blk w g 178 (u64C L)) :
  (results fn tmps).run Tryz.prog w=.ok (.tuple #[.agg (u64C L),v]) w:=by
 have hp':tmps[k]?.getD undef=.pointer (some ⟨g,0,none⟩):=by simpa using hp
 have hv':tmps[u]?.getD undef=v:=by simpa using hv
 simp [results,h,hp',hv',asAddr,run_loadVar_row w g 178 178 (u64C L) (0,0) _ hb Tryz.underlying178 rfl (by rw [size_point,u64C_size,hl])]
theorem set4_fr {a w:World} {g:Nat} {v0 v1 v2 v3:Value} (h:Fr NoB a w) (hg:a.heap.size≤g):Fr NoB a ((((w.setCell ⟨g,0,none⟩ v0).setCell ⟨g,1,none⟩ v1).setCell ⟨g,2,none⟩ v2).setCell ⟨g,3,none⟩ v3):=
 (((h.setCell_new (p:=⟨g,0,none⟩) hg _).setCell_new (p:=⟨g,1,none⟩) hg _).setCell_new (p:=⟨g,2,none⟩) hg _).setCell_new (p:=⟨g,3,none⟩) hg _
theorem four_far {w:World} {g g':Nat} {cs:Array Value} {v0 v1 v2 v3:Value} (h:Blk w g 176 cs) (hg:g≠g'):Blk ((((w.setCell ⟨g',0,none⟩ v0).setCell ⟨g',1,none⟩ v1).setCell ⟨g',2,none⟩ v2).setCell ⟨g',3,none⟩ v3) g 176 cs:=
 (((h.far (p:=⟨g',0,none⟩) hg _).far (p:=⟨g',1,none⟩) hg _).far (p:=⟨g',2,none⟩) hg _).far (p:=⟨g',3,none⟩) hg _
theorem blk_new4 (w:World) (a b c d:Nat):Blk (w.alloc (.cells #[.int .u64 (a:Int),.int .u64 (b:Int),.int .u64 (c:Int),.int .u64 (d:Int)] 176)) w.heap.size 176 (u64C [a,b,c,d]):=Blk.new _ _ _
theorem blk_two4 (w:World) (o:Obj) (a b c d:Nat):Blk ((w.alloc o).alloc (.cells #[.int .u64 (a:Int),.int .u64 (b:Int),.int .u64 (c:Int),.int .u64 (d:Int)] 176)) (w.heap.size+1) 176 (u64C [a,b,c,d]):=by
 have:=Blk.new (w.alloc o) 176 (u64C [a,b,c,d])
 have h3:(w.alloc o).heap.size=w.heap.size+1:=by simp
 rw [h3] at this
 exact this
theorem set12_other {u:World} {g:Nat} {V:Nat→Value} {p:Addr} (h:g≠p.block):((((((((((((u.setCell ⟨g,0,none⟩ (V 0)).setCell ⟨g,1,none⟩ (V 1)).setCell ⟨g,2,none⟩ (V 2)).setCell ⟨g,3,none⟩ (V 3)).setCell ⟨g,4,none⟩ (V 4)).setCell ⟨g,5,none⟩ (V 5)).setCell ⟨g,6,none⟩ (V 6)).setCell ⟨g,7,none⟩ (V 7)).setCell ⟨g,8,none⟩ (V 8)).setCell ⟨g,9,none⟩ (V 9)).setCell ⟨g,10,none⟩ (V 10)).setCell ⟨g,11,none⟩ (V 11)).cell? p=u.cell? p:=by
 have k:∀ (v:World) (i:Nat) (x:Value),(v.setCell ⟨g,i,none⟩ x).cell? p=v.cell? p:=fun v i x=>World.cell?_setCell_other v _ _ x (fun e=>h (by rw [← e]))
 rw [k,k,k,k,k,k,k,k,k,k,k,k]
theorem set12_fr {a u:World} {g:Nat} {V:Nat→Value} (h:Fr NoB a u) (hg:a.heap.size≤g):Fr NoB a ((((((((((((u.setCell ⟨g,0,none⟩ (V 0)).setCell ⟨g,1,none⟩ (V 1)).setCell ⟨g,2,none⟩ (V 2)).setCell ⟨g,3,none⟩ (V 3)).setCell ⟨g,4,none⟩ (V 4)).setCell ⟨g,5,none⟩ (V 5)).setCell ⟨g,6,none⟩ (V 6)).setCell ⟨g,7,none⟩ (V 7)).setCell ⟨g,8,none⟩ (V 8)).setCell ⟨g,9,none⟩ (V 9)).setCell ⟨g,10,none⟩ (V 10)).setCell ⟨g,11,none⟩ (V 11)):=
 ((((((((((((h.setCell_new (p:=⟨g,0,none⟩) hg _).setCell_new (p:=⟨g,1,none⟩) hg _).setCell_new (p:=⟨g,2,none⟩) hg _).setCell_new (p:=⟨g,3,none⟩) hg _).setCell_new (p:=⟨g,4,none⟩) hg _).setCell_new (p:=⟨g,5,none⟩) hg _).setCell_new (p:=⟨g,6,none⟩) hg _).setCell_new (p:=⟨g,7,none⟩) hg _).setCell_new (p:=⟨g,8,none⟩) hg _).setCell_new (p:=⟨g,9,none⟩) hg _).setCell_new (p:=⟨g,10,none⟩) hg _).setCell_new (p:=⟨g,11,none⟩) hg _)
theorem set12_row {u:World} {g:Nat} {X:Nat→Nat} (h:Blk u g 178 z12):Blk ((((((((((((u.setCell ⟨g,0,none⟩ (.int .u64 (X 0:Int))).setCell ⟨g,1,none⟩ (.int .u64 (X 1:Int))).setCell ⟨g,2,none⟩ (.int .u64 (X 2:Int))).setCell ⟨g,3,none⟩ (.int .u64 (X 3:Int))).setCell ⟨g,4,none⟩ (.int .u64 (X 4:Int))).setCell ⟨g,5,none⟩ (.int .u64 (X 5:Int))).setCell ⟨g,6,none⟩ (.int .u64 (X 6:Int))).setCell ⟨g,7,none⟩ (.int .u64 (X 7:Int))).setCell ⟨g,8,none⟩ (.int .u64 (X 8:Int))).setCell ⟨g,9,none⟩ (.int .u64 (X 9:Int))).setCell ⟨g,10,none⟩ (.int .u64 (X 10:Int))).setCell ⟨g,11,none⟩ (.int .u64 (X 11:Int))) g 178 (u64C [X 0,X 1,X 2,X 3,X 4,X 5,X 6,X 7,X 8,X 9,X 10,X 11]):=by
 have h0:Blk u g 178 (u64C [0,0,0,0,0,0,0,0,0,0,0,0]):=h
 have h1:=h0.set_ 0 (.int .u64 (X 0:Int))
 rw [u64C_set] at h1
 have h2:=h1.set_ 1 (.int .u64 (X 1:Int))
 rw [u64C_set] at h2
 have h3:=h2.set_ 2 (.int .u64 (X 2:Int))
 rw [u64C_set] at h3
 have h4:=h3.set_ 3 (.int .u64 (X 3:Int))
 rw [u64C_set] at h4
 have h5:=h4.set_ 4 (.int .u64 (X 4:Int))
 rw [u64C_set] at h5
 have h6:=h5.set_ 5 (.int .u64 (X 5:Int))
 rw [u64C_set] at h6
 have h7:=h6.set_ 6 (.int .u64 (X 6:Int))
 rw [u64C_set] at h7
 have h8:=h7.set_ 7 (.int .u64 (X 7:Int))
 rw [u64C_set] at h8
 have h9:=h8.set_ 8 (.int .u64 (X 8:Int))
 rw [u64C_set] at h9
 have h10:=h9.set_ 9 (.int .u64 (X 9:Int))
 rw [u64C_set] at h10
 have h11:=h10.set_ 10 (.int .u64 (X 10:Int))
 rw [u64C_set] at h11
 have h12:=h11.set_ 11 (.int .u64 (X 11:Int))
 rw [u64C_set] at h12
 exact h12
theorem z4_facts {w:World} {g:Nat} (h:Blk w g 176 z4):w.cell? ⟨g,0,none⟩=some (.int .u64 0)∧w.cell? ⟨g,1,none⟩=some (.int .u64 0)∧w.cell? ⟨g,2,none⟩=some (.int .u64 0)∧w.cell? ⟨g,3,none⟩=some (.int .u64 0)∧w.frozen? ⟨g,0,none⟩=false∧w.frozen? ⟨g,1,none⟩=false∧w.frozen? ⟨g,2,none⟩=false∧w.frozen? ⟨g,3,none⟩=false∧w.heap.size≠g:=
 ⟨(h.cell 0).trans rfl,(h.cell 1).trans rfl,(h.cell 2).trans rfl,(h.cell 3).trans rfl,h.frozen 0,h.frozen 1,h.frozen 2,h.frozen 3,fun e=>by have:=h.lt;omega⟩
theorem new_one (w:World):Blk ((w.alloc (.cells z4 176)).alloc (.cells z4 176)) (w.heap.size+1) 176 z4:=by
 have:=Blk.new (w.alloc (.cells z4 176)) 176 z4
 have h3:(w.alloc (.cells z4 176)).heap.size=w.heap.size+1:=by simp
 rw [h3] at this
 exact this
abbrev l12:List Nat:=[0,0,0,0,0,0,0,0,0,0,0,0]
theorem of_any (X Y:Bs) (w:World) :
  Calls Tryz.prog 118 #[.agg #[.string ⟨X.toArray⟩,.string ⟨Y.toArray⟩]] w fun e w'=>(∃ l:List Nat,l.length=12∧e=.returned (.tuple #[.agg (u64C l),.bool ((X.isEmpty&&Y.isEmpty) || ecP X Y)]))∧Fr NoB w w':=by
 have hzX:(⟨X.toArray⟩:ByteArray).size=X.length:=by show X.toArray.size=_;simp
 have hzY:(⟨Y.toArray⟩:ByteArray).size=Y.length:=by show Y.toArray.size=_;simp
 obtain ⟨res,hres⟩:∃ r,r=((X.isEmpty&&Y.isEmpty) || ecP X Y):=⟨_,rfl⟩
 rw [← hres]
 have HRS:=Lib.hid hres
 clear hres
 go_enter Tryz.func118,Tryz.ntmps118
 go_upto_region 1 with fail
 have b0:Blk ((w.alloc (.cells #[.string ⟨X.toArray⟩,.string ⟨Y.toArray⟩] 25)).alloc (.cells z12 178)) w.heap.size 25 #[.string ⟨X.toArray⟩,.string ⟨Y.toArray⟩]:=(Blk.new w _ _).alloc _
 have b2:Blk ((w.alloc (.cells #[.string ⟨X.toArray⟩,.string ⟨Y.toArray⟩] 25)).alloc (.cells z12 178)) (w.heap.size+1) 178 z12:=by
  have:=Blk.new (w.alloc (.cells #[.string ⟨X.toArray⟩,.string ⟨Y.toArray⟩] 25)) 178 z12
  have h3:(w.alloc (.cells #[.string ⟨X.toArray⟩,.string ⟨Y.toArray⟩] 25)).heap.size=w.heap.size+1:=by simp
  rw [h3] at this
  exact this
 have f0:Fr NoB w ((w.alloc (.cells #[.string ⟨X.toArray⟩,.string ⟨Y.toArray⟩] 25)).alloc (.cells z12 178)):=((Fr.refl _ _).alloc _).alloc _
 generalize (w.alloc (.cells #[.string ⟨X.toArray⟩,.string ⟨Y.toArray⟩] 25)).alloc (.cells z12 178)=W at *
 have q0:W.cell? ⟨w.heap.size,0,none⟩=some (.string ⟨X.toArray⟩):=(b0.cell 0).trans rfl
 have q1:W.cell? ⟨w.heap.size,1,none⟩=some (.string ⟨Y.toArray⟩):=(b0.cell 1).trans rfl
 have hz12:=b2.setRow (u64C l12)
 have fz12:=f0.setRow (w.heap.size+1) (u64C l12) (Or.inl (by omega))
 by_cases hE:X=[]∧Y=[]
 ·obtain ⟨rfl,rfl⟩:=hE
  go_wp2_with (refine point_store rfl _ _ rfl (w.heap.size+1) l12 rfl rfl rfl _ b2 rfl ?_)
  exact bodyPost_ret (point_back2 2 3 rfl _ _ (w.heap.size+1) l12 rfl (.bool true) rfl rfl hz12) rfl ⟨⟨l12,rfl,by rw [HRS.out];rfl⟩,fz12⟩
 have hem:(X.isEmpty&&Y.isEmpty)=false:=by
  cases X<;>cases Y<;>simp_all
 rw [hem,Bool.false_or] at HRS
 go_upto_region 1 with fail
 go_cut [10] (fun v wx=>v=.bool false∧wx=W)
 case first=>
  by_cases hX:X=[]
  ·have hY:Y≠[]:=fun e=>hE ⟨hX,e⟩
   have hY':Y.isEmpty=false:=by cases Y<;>simp_all
   subst hX
   go_wp2_with fail
   all_goals (go_meet;first|exact ⟨rfl,rfl⟩|(exfalso;simp_all))
  ·go_wp2_with fail
   all_goals (go_meet;first|exact ⟨rfl,rfl⟩|(exfalso;simp_all))
 case rest=>
 obtain ⟨rfl,rfl⟩:=hcut
 clear hem hE
 by_cases hX:X.length=32
 ·by_cases hY:Y.length=32
  ·have kX:((X.length:Nat):Int)=32:=by omega
   have kY:((Y.length:Nat):Int)=32:=by omega
   obtain ⟨x0,x1,x2,x3,hx4⟩:=four_of (natB X)
   obtain ⟨y0,y1,y2,y3,hy4⟩:=four_of (natB Y)
   have KX:Hid (∀ u,Calls Tryz.prog 163 #[.string ⟨X.toArray⟩] u fun e w'=>e=.returned (.agg #[.int .u64 (x0:Int),.int .u64 (x1:Int),.int .u64 (x2:Int),.int .u64 (x3:Int)])∧Fr NoB u w'):=Lib.hid (fun u=>by have:=number_any X u hX;unfold numC at this;rw [hx4] at this;exact this)
   have KY:Hid (∀ u,Calls Tryz.prog 163 #[.string ⟨Y.toArray⟩] u fun e w'=>e=.returned (.agg #[.int .u64 (y0:Int),.int .u64 (y1:Int),.int .u64 (y2:Int),.int .u64 (y3:Int)])∧Fr NoB u w'):=Lib.hid (fun u=>by have:=number_any Y u hY;unfold numC at this;rw [hy4] at this;exact this)
   go_upto_region 5 with fail
   go_cut [4,5] (fun v4 v5 wx=>∃ gx gy,v4=.pointer (some ⟨gx,0,none⟩)∧v5=.pointer (some ⟨gy,0,none⟩)∧Blk wx gx 176 (u64C [x0,x1,x2,x3])∧Blk wx gy 176 (u64C [y0,y1,y2,y3])∧Fr NoB wc wx)
   case first=>
    have HSS:Hid (∀ u,Fr NoB wc u→(fun w'=>w'.cell? ⟨w.heap.size,0,none⟩=some (.string ⟨X.toArray⟩)∧w'.cell? ⟨w.heap.size,1,none⟩=some (.string ⟨Y.toArray⟩)) u):=Lib.hid (fun u fu=>⟨fu.cellOf q0,fu.cellOf q1⟩)
    go_region_held3 (fun w'=>w'.cell? ⟨w.heap.size,0,none⟩=some (.string ⟨X.toArray⟩)∧w'.cell? ⟨w.heap.size,1,none⟩=some (.string ⟨Y.toArray⟩)) (first|(with_reducible exact HSS.out _ t2)|(with_reducible exact HSS.out _ t1)|(with_reducible refine HSS.out _ ?_;repeat' (first|(with_reducible exact t2)|(with_reducible exact t1)|(with_reducible exact Fr.refl _ _)|(with_reducible refine Fr.drew ?_)|(with_reducible refine set4_fr ?_ (by first|exact Nat.le_refl _|omega))|(with_reducible refine Fr.alloc ?_ _)))|go_keep) (first|(go_at_call 163;(with_reducible refine (KX.out _).mono ?_);rintro e v1 ⟨rfl,t1'⟩;(first|(with_reducible have t1:Fr NoB wc v1:=(Fr.refl NoB wc).drew.trans t1')|((with_reducible have t1:Fr NoB wc v1:=((Fr.refl NoB wc).alloc _).drew.trans t1');have nA:Blk v1 wc.heap.size 176 z4:=t1'.blk (Blk.new wc 176 z4).drew (fun e=>e))|((with_reducible have t1:Fr NoB wc v1:=(((Fr.refl NoB wc).alloc _).alloc _).drew.trans t1');have nA:Blk v1 wc.heap.size 176 z4:=t1'.blk ((Blk.new wc 176 z4).alloc _).drew (fun e=>e);have nB:Blk v1 (wc.heap.size+1) 176 z4:=t1'.blk (new_one wc).drew (fun e=>e))))|(go_at_call 163;(with_reducible refine (KY.out _).mono ?_);rintro e v2 ⟨rfl,t2'⟩;(first|((with_reducible have t2:Fr NoB wc v2:=t1.trans t2');have ts1:=t1.size;have ts2:=t2.size;(try (have mA:Blk v2 wc.heap.size 176 z4:=t2'.blk nA (fun e=>e);obtain ⟨a0,a1,a2,a3,a4,a5,a6,a7,a8⟩:=z4_facts mA;obtain ⟨az0,az1,az2,az3,az4,az5,az6,az7,az8⟩:=z4_facts (mA.alloc (.cells z4 176));obtain ⟨ax0,ax1,ax2,ax3,ax4,ax5,ax6,ax7,ax8⟩:=z4_facts (mA.alloc (.cells #[.int .u64 (x0:Int),.int .u64 (x1:Int),.int .u64 (x2:Int),.int .u64 (x3:Int)] 176));have an:=Ne.symm a8));(try (have mB:Blk v2 (wc.heap.size+1) 176 z4:=t2'.blk nB (fun e=>e);obtain ⟨b0,b1,b2,b3,b4,b5,b6,b7,b8⟩:=z4_facts mB;obtain ⟨bz0,bz1,bz2,bz3,bz4,bz5,bz6,bz7,bz8⟩:=z4_facts (mB.alloc (.cells z4 176));obtain ⟨bx0,bx1,bx2,bx3,bx4,bx5,bx6,bx7,bx8⟩:=z4_facts (mB.alloc (.cells #[.int .u64 (x0:Int),.int .u64 (x1:Int),.int .u64 (x2:Int),.int .u64 (x3:Int)] 176));have bn:=Ne.symm b8)))|((with_reducible have t2:Fr NoB wc v2:=(t1.alloc _).trans t2');have ts1:=t1.size;have ts2:=t2.size;have mC:Blk v2 v1.heap.size 176 z4:=t2'.blk (Blk.new v1 176 z4) (fun e=>e);obtain ⟨c0,c1,c2,c3,c4,c5,c6,c7,c8⟩:=z4_facts mC;obtain ⟨cz0,cz1,cz2,cz3,cz4,cz5,cz6,cz7,cz8⟩:=z4_facts (mC.alloc (.cells z4 176));obtain ⟨cx0,cx1,cx2,cx3,cx4,cx5,cx6,cx7,cx8⟩:=z4_facts (mC.alloc (.cells #[.int .u64 (x0:Int),.int .u64 (x1:Int),.int .u64 (x2:Int),.int .u64 (x3:Int)] 176));have cn:=Ne.symm c8;(try (have nAC:=Nat.ne_of_lt nA.lt;have nCA:=Nat.ne_of_gt nA.lt;have mA:Blk v2 wc.heap.size 176 z4:=t2'.blk (nA.alloc _) (fun e=>e);obtain ⟨a0,a1,a2,a3,a4,a5,a6,a7,a8⟩:=z4_facts mA;obtain ⟨az0,az1,az2,az3,az4,az5,az6,az7,az8⟩:=z4_facts (mA.alloc (.cells z4 176));obtain ⟨ax0,ax1,ax2,ax3,ax4,ax5,ax6,ax7,ax8⟩:=z4_facts (mA.alloc (.cells #[.int .u64 (x0:Int),.int .u64 (x1:Int),.int .u64 (x2:Int),.int .u64 (x3:Int)] 176));have an:=Ne.symm a8)))|((with_reducible have t2:Fr NoB wc v2:=((t1.alloc _).alloc _).trans t2');have ts1:=t1.size;have ts2:=t2.size;have mC:Blk v2 v1.heap.size 176 z4:=t2'.blk ((Blk.new v1 176 z4).alloc _) (fun e=>e);obtain ⟨c0,c1,c2,c3,c4,c5,c6,c7,c8⟩:=z4_facts mC;obtain ⟨cz0,cz1,cz2,cz3,cz4,cz5,cz6,cz7,cz8⟩:=z4_facts (mC.alloc (.cells z4 176));obtain ⟨cx0,cx1,cx2,cx3,cx4,cx5,cx6,cx7,cx8⟩:=z4_facts (mC.alloc (.cells #[.int .u64 (x0:Int),.int .u64 (x1:Int),.int .u64 (x2:Int),.int .u64 (x3:Int)] 176));have cn:=Ne.symm c8;have mD:Blk v2 (v1.heap.size+1) 176 z4:=t2'.blk (new_one v1) (fun e=>e);obtain ⟨d0,d1,d2,d3,d4,d5,d6,d7,d8⟩:=z4_facts mD;obtain ⟨dz0,dz1,dz2,dz3,dz4,dz5,dz6,dz7,dz8⟩:=z4_facts (mD.alloc (.cells z4 176));obtain ⟨dx0,dx1,dx2,dx3,dx4,dx5,dx6,dx7,dx8⟩:=z4_facts (mD.alloc (.cells #[.int .u64 (x0:Int),.int .u64 (x1:Int),.int .u64 (x2:Int),.int .u64 (x3:Int)] 176));have dn:=Ne.symm d8))))
    all_goals (go_wp2_with fail;go_meet;refine ⟨_,_,rfl,rfl,?_,?_,?_⟩)
    all_goals (repeat' (first|(with_reducible assumption)|(with_reducible refine four_row ?_)|(with_reducible refine four_far ?_ (by first|assumption|omega))|(with_reducible exact blk_new4 _ _ _ _ _)|(with_reducible exact blk_two4 _ _ _ _ _ _)|(with_reducible exact Blk.new _ _ _)|(with_reducible exact new_one _)|(with_reducible refine Blk.alloc ?_ _)|(with_reducible refine set4_fr ?_ (by first|exact Nat.le_refl _|omega))|(with_reducible refine Fr.alloc ?_ _)))
   case rest=>
   obtain ⟨gx,gy,rfl,rfl,hbx,hby,hf⟩:=hcut
   have c2:=hf.blk b2 (fun e=>e)
   have f1:=f0.trans hf
   have HPt:=Lib.hid c2
   clear b0 b2 q0 q1 hz12 fz12 f0 hf c2 KX KY kX kY hzX hzY
   have b6:Blk (wc.alloc (.cells #[.int .u64 4309448131093880907,.int .u64 7285987128567378166,.int .u64 12964664127075681980,.int .u64 6540974713487397863] 176)) wc.heap.size 176 (numC curveB):=by rw [b_words];exact Blk.new _ _ _
   have f6:Fr NoB wc (wc.alloc (.cells #[.int .u64 4309448131093880907,.int .u64 7285987128567378166,.int .u64 12964664127075681980,.int .u64 6540974713487397863] 176)):=(Fr.refl _ _).alloc _
   go_upto_region 7 with fail
   have hbx6:=f6.blk hbx (fun e=>e)
   have hby6:=f6.blk hby (fun e=>e)
   have HP6:=Lib.hid (f6.blk HPt.out (fun e=>e))
   have f16:=f1.trans f6
   clear hbx hby HPt f1 f6
   generalize wc.alloc (.cells #[.int .u64 4309448131093880907,.int .u64 7285987128567378166,.int .u64 12964664127075681980,.int .u64 6540974713487397863] 176)=W6 at *
   generalize wc.heap.size=g6 at *
   have hpl:=p_lt
   have hp0:0<pP:=by decide
   have hml:∀ q,q % pP<115792089237316195423570985008687907853269984665640564039457584007913129639936:=fun q=>Nat.lt_trans (Nat.mod_lt _ hp0) hpl
   have hxl:natB X<115792089237316195423570985008687907853269984665640564039457584007913129639936:=by have:=natB_lt X;rw [hX] at this;exact this
   have hyl:natB Y<115792089237316195423570985008687907853269984665640564039457584007913129639936:=by have:=natB_lt Y;rw [hY] at this;exact this
   have MA:=Lib.hid (fun u=>mul_any (natB X) (natB X) u hxl hxl)
   have MB:=Lib.hid (fun u=>mul_any (natB X) (natB X*natB X % pP) u hxl (hml _))
   have MC:=Lib.hid (fun u=>mul_any 3 (natB X) u (by decide) hxl)
   have MD:=Lib.hid (fun u=>sub_any (natB X*(natB X*natB X % pP) % pP) (3*natB X % pP) u (hml _) (hml _))
   have ME:=Lib.hid (fun u=>add_any (((natB X*(natB X*natB X % pP) % pP)+(pP - (3*natB X % pP) % pP) % pP) % pP) curveB u (hml _) (by decide))
   have HRP:Hid (rightP (natB X)=(((natB X*(natB X*natB X % pP) % pP)+(pP - (3*natB X % pP) % pP) % pP) % pP+curveB) % pP):=Lib.hid rfl
   generalize ((natB X*(natB X*natB X % pP) % pP)+(pP - (3*natB X % pP) % pP) % pP) % pP=ne at *
   generalize (ne+curveB) % pP=nr at *
   generalize natB X*(natB X*natB X % pP) % pP=nc at *
   generalize 3*natB X % pP=nd at *
   generalize natB X*natB X % pP=na at *
   obtain ⟨a0,a1,a2,a3,ha4⟩:=four_of na
   obtain ⟨c0,c1,c2,c3,hc4⟩:=four_of nc
   obtain ⟨d0,d1,d2,d3,hd4⟩:=four_of nd
   obtain ⟨e0,e1,e2,e3,he4⟩:=four_of ne
   obtain ⟨r0,r1,r2,r3,hr4⟩:=four_of nr
   have h34:wds 4 3=[3,0,0,0]:=by simp [wds]
   have KA:Hid (∀ u,Calls Tryz.prog 166 #[.agg #[.int .u64 (x0:Int),.int .u64 (x1:Int),.int .u64 (x2:Int),.int .u64 (x3:Int)],.agg #[.int .u64 (x0:Int),.int .u64 (x1:Int),.int .u64 (x2:Int),.int .u64 (x3:Int)]] u fun e w'=>e=.returned (.agg #[.int .u64 (a0:Int),.int .u64 (a1:Int),.int .u64 (a2:Int),.int .u64 (a3:Int)])∧Fr NoB u w'):=Lib.hid (fun u=>by have:=MA.out u;unfold numC at this;rw [hx4,ha4] at this;exact this)
   have KB:Hid (∀ u,Calls Tryz.prog 166 #[.agg #[.int .u64 (x0:Int),.int .u64 (x1:Int),.int .u64 (x2:Int),.int .u64 (x3:Int)],.agg #[.int .u64 (a0:Int),.int .u64 (a1:Int),.int .u64 (a2:Int),.int .u64 (a3:Int)]] u fun e w'=>e=.returned (.agg #[.int .u64 (c0:Int),.int .u64 (c1:Int),.int .u64 (c2:Int),.int .u64 (c3:Int)])∧Fr NoB u w'):=Lib.hid (fun u=>by have:=MB.out u;unfold numC at this;rw [hx4,ha4,hc4] at this;exact this)
   have KC:Hid (∀ u,Calls Tryz.prog 166 #[.agg #[.int .u64 3,.int .u64 0,.int .u64 0,.int .u64 0],.agg #[.int .u64 (x0:Int),.int .u64 (x1:Int),.int .u64 (x2:Int),.int .u64 (x3:Int)]] u fun e w'=>e=.returned (.agg #[.int .u64 (d0:Int),.int .u64 (d1:Int),.int .u64 (d2:Int),.int .u64 (d3:Int)])∧Fr NoB u w'):=Lib.hid (fun u=>by have:=MC.out u;unfold numC at this;rw [h34,hx4,hd4] at this;exact this)
   have KD:Hid (∀ u,Calls Tryz.prog 165 #[.agg #[.int .u64 (c0:Int),.int .u64 (c1:Int),.int .u64 (c2:Int),.int .u64 (c3:Int)],.agg #[.int .u64 (d0:Int),.int .u64 (d1:Int),.int .u64 (d2:Int),.int .u64 (d3:Int)]] u fun e w'=>e=.returned (.agg #[.int .u64 (e0:Int),.int .u64 (e1:Int),.int .u64 (e2:Int),.int .u64 (e3:Int)])∧Fr NoB u w'):=Lib.hid (fun u=>by have:=MD.out u;unfold numC at this;rw [hc4,hd4,he4] at this;exact this)
   have KE:Hid (∀ u,Calls Tryz.prog 164 #[.agg #[.int .u64 (e0:Int),.int .u64 (e1:Int),.int .u64 (e2:Int),.int .u64 (e3:Int)],.agg #[.int .u64 4309448131093880907,.int .u64 7285987128567378166,.int .u64 12964664127075681980,.int .u64 6540974713487397863]] u fun e w'=>e=.returned (.agg #[.int .u64 (r0:Int),.int .u64 (r1:Int),.int .u64 (r2:Int),.int .u64 (r3:Int)])∧Fr NoB u w'):=Lib.hid (fun u=>by have:=ME.out u;rw [b_words] at this;unfold numC at this;rw [he4,hr4] at this;exact this)
   rw [b_words] at b6
   clear MA MB MC MD ME
   have hxc:=four_cells hbx6
   have HSS:Hid (∀ u,Fr NoB W6 u→(fun w'=>w'.cell? ⟨gx,0,none⟩=some (.int .u64 (x0:Int))∧w'.cell? ⟨gx,1,none⟩=some (.int .u64 (x1:Int))∧w'.cell? ⟨gx,2,none⟩=some (.int .u64 (x2:Int))∧w'.cell? ⟨gx,3,none⟩=some (.int .u64 (x3:Int))∧w'.cell? ⟨g6,0,none⟩=some (.int .u64 4309448131093880907)∧w'.cell? ⟨g6,1,none⟩=some (.int .u64 7285987128567378166)∧w'.cell? ⟨g6,2,none⟩=some (.int .u64 12964664127075681980)∧w'.cell? ⟨g6,3,none⟩=some (.int .u64 6540974713487397863)) u):=Lib.hid (fun u fu=>⟨fu.cellOf hxc.1,fu.cellOf hxc.2.1,fu.cellOf hxc.2.2.1,fu.cellOf hxc.2.2.2,fu.cellOf ((b6.cell 0).trans rfl),fu.cellOf ((b6.cell 1).trans rfl),fu.cellOf ((b6.cell 2).trans rfl),fu.cellOf ((b6.cell 3).trans rfl)⟩)
   clear hxc b6
   obtain ⟨s0,s1,s2,s3,s4,s5,s6,s7⟩:=HSS.out W6 (Fr.refl _ _)
   go_cut [7] (fun v7 wx=>∃ gr,v7=.pointer (some ⟨gr,0,none⟩)∧Blk wx gr 176 (u64C [r0,r1,r2,r3])∧Fr NoB W6 wx)
   case first=>
    go_region_held3 (fun w'=>w'.cell? ⟨gx,0,none⟩=some (.int .u64 (x0:Int))∧w'.cell? ⟨gx,1,none⟩=some (.int .u64 (x1:Int))∧w'.cell? ⟨gx,2,none⟩=some (.int .u64 (x2:Int))∧w'.cell? ⟨gx,3,none⟩=some (.int .u64 (x3:Int))∧w'.cell? ⟨g6,0,none⟩=some (.int .u64 4309448131093880907)∧w'.cell? ⟨g6,1,none⟩=some (.int .u64 7285987128567378166)∧w'.cell? ⟨g6,2,none⟩=some (.int .u64 12964664127075681980)∧w'.cell? ⟨g6,3,none⟩=some (.int .u64 6540974713487397863)) (first|(with_reducible exact HSS.out _ t5)|(with_reducible exact HSS.out _ t4)|(with_reducible exact HSS.out _ t3)|(with_reducible exact HSS.out _ t2)|(with_reducible exact HSS.out _ t1)|(with_reducible refine HSS.out _ ?_;repeat' (first|(with_reducible exact t5)|(with_reducible exact t4)|(with_reducible exact t3)|(with_reducible exact t2)|(with_reducible exact t1)|(with_reducible exact Fr.refl _ _)|(with_reducible refine Fr.drew ?_)|(with_reducible refine set4_fr ?_ (by first|exact Nat.le_refl _|omega))|(with_reducible refine Fr.alloc ?_ _)))|go_keep) (first|(go_at_call 166;(with_reducible refine (KA.out _).mono ?_);rintro e v1 ⟨rfl,t1'⟩;(first|((with_reducible have t1:Fr NoB W6 v1:=(Fr.refl NoB W6).drew.trans t1');(try (replace nn:=t1'.blk nn (fun e=>e))))|((with_reducible have t1:Fr NoB W6 v1:=((Fr.refl NoB W6).alloc _).drew.trans t1');have nn:Blk v1 W6.heap.size 176 z4:=t1'.blk (Blk.new W6 176 z4).drew (fun e=>e)));have ts1:=t1.size)|(go_at_call 166;(with_reducible refine (KB.out _).mono ?_);rintro e v2 ⟨rfl,t2'⟩;(first|((with_reducible have t2:Fr NoB W6 v2:=t1.trans t2');(try (replace nn:=t2'.blk nn (fun e=>e))))|((with_reducible have t2:Fr NoB W6 v2:=(t1.alloc _).trans t2');have nn:Blk v2 v1.heap.size 176 z4:=t2'.blk (Blk.new v1 176 z4) (fun e=>e)));have ts2:=t2.size)|(go_at_call 166;(with_reducible refine (KC.out _).mono ?_);rintro e v3 ⟨rfl,t3'⟩;(first|((with_reducible have t3:Fr NoB W6 v3:=t2.trans t3');(try (replace nn:=t3'.blk nn (fun e=>e))))|((with_reducible have t3:Fr NoB W6 v3:=(t2.alloc _).trans t3');have nn:Blk v3 v2.heap.size 176 z4:=t3'.blk (Blk.new v2 176 z4) (fun e=>e)));have ts3:=t3.size)|(go_at_call 165;(with_reducible refine (KD.out _).mono ?_);rintro e v4 ⟨rfl,t4'⟩;(first|((with_reducible have t4:Fr NoB W6 v4:=t3.trans t4');(try (replace nn:=t4'.blk nn (fun e=>e))))|((with_reducible have t4:Fr NoB W6 v4:=(t3.alloc _).trans t4');have nn:Blk v4 v3.heap.size 176 z4:=t4'.blk (Blk.new v3 176 z4) (fun e=>e)));have ts4:=t4.size)|(go_at_call 164;(with_reducible refine (KE.out _).mono ?_);rintro e v5 ⟨rfl,t5'⟩;(first|((with_reducible have t5:Fr NoB W6 v5:=t4.trans t5');(try (replace nn:=t5'.blk nn (fun e=>e))))|((with_reducible have t5:Fr NoB W6 v5:=(t4.alloc _).trans t5');have nn:Blk v5 v4.heap.size 176 z4:=t5'.blk (Blk.new v4 176 z4) (fun e=>e)));have ts5:=t5.size;(try (have kk:=z4_facts nn;obtain ⟨k0,k1,k2,k3,k4,k5,k6,k7,k8⟩:=kk))))
    all_goals (go_wp2_with fail;go_meet;refine ⟨_,rfl,?_,?_⟩)
    all_goals (repeat' (first|(with_reducible assumption)|(with_reducible refine four_row ?_)|(with_reducible exact blk_new4 _ _ _ _ _)|(with_reducible exact Blk.new _ _ _)|(with_reducible refine Blk.alloc ?_ _)|(with_reducible refine set4_fr ?_ (by first|exact Nat.le_refl _|omega))|(with_reducible refine Fr.alloc ?_ _)))
   case rest=>
   obtain ⟨gr,rfl,hbr,hf7⟩:=hcut
   have hbx8:=hf7.blk hbx6 (fun e=>e)
   have hby8:=hf7.blk hby6 (fun e=>e)
   have HP8:=Lib.hid (hf7.blk HP6.out (fun e=>e))
   have f18:=f16.trans hf7
   clear hbx6 hby6 HP6 f16 hf7 KA KB KC KD KE HSS s0 s1 s2 s3 s4 s5 s6 s7 ha4 hc4 hd4 he4 h34
   have hne:∀ g (cs:Array Value),Blk wc g 176 cs→w.heap.size+1≠g:=fun g cs h e=>by
    have h2:=HP8.out
    unfold Blk at h h2
    rw [← e,h2] at h
    simp at h
   have nx:=hne _ _ hbx8
   have ny:=hne _ _ hby8
   have nr':=hne _ _ hbr
   clear hne
   obtain ⟨p0',p1',p2',p3',hp4⟩:=four_of (natB X % pP)
   obtain ⟨q0',q1',q2',q3',hq4⟩:=four_of (natB Y % pP)
   obtain ⟨m0',m1',m2',m3',hm4⟩:=four_of (natB Y*natB Y % pP)
   have KM:Hid (∀ u,Calls Tryz.prog 168 #[.int .i64 0] u fun e w'=>e=.returned (.agg #[.int .u64 18446744073709551615,.int .u64 4294967295,.int .u64 0,.int .u64 18446744069414584321])∧Fr NoB u w'):=Lib.hid (fun u=>by have:=modulus_any u;rw [p_words] at this;exact this)
   have KBX:Hid (∀ u,Calls Tryz.prog 167 #[.agg #[.int .u64 (x0:Int),.int .u64 (x1:Int),.int .u64 (x2:Int),.int .u64 (x3:Int)],.agg #[.int .u64 18446744073709551615,.int .u64 4294967295,.int .u64 0,.int .u64 18446744069414584321]] u fun e w'=>e=.returned (.agg #[.int .u64 (p0':Int),.int .u64 (p1':Int),.int .u64 (p2':Int),.int .u64 (p3':Int)])∧Fr NoB u w'):=Lib.hid (fun u=>by have:=below_any (natB X) u hxl;rw [p_words] at this;unfold numC at this;rw [hx4,hp4] at this;exact this)
   have KBY:Hid (∀ u,Calls Tryz.prog 167 #[.agg #[.int .u64 (y0:Int),.int .u64 (y1:Int),.int .u64 (y2:Int),.int .u64 (y3:Int)],.agg #[.int .u64 18446744073709551615,.int .u64 4294967295,.int .u64 0,.int .u64 18446744069414584321]] u fun e w'=>e=.returned (.agg #[.int .u64 (q0':Int),.int .u64 (q1':Int),.int .u64 (q2':Int),.int .u64 (q3':Int)])∧Fr NoB u w'):=Lib.hid (fun u=>by have:=below_any (natB Y) u hyl;rw [p_words] at this;unfold numC at this;rw [hy4,hq4] at this;exact this)
   have KMY:Hid (∀ u,Calls Tryz.prog 166 #[.agg #[.int .u64 (y0:Int),.int .u64 (y1:Int),.int .u64 (y2:Int),.int .u64 (y3:Int)],.agg #[.int .u64 (y0:Int),.int .u64 (y1:Int),.int .u64 (y2:Int),.int .u64 (y3:Int)]] u fun e w'=>e=.returned (.agg #[.int .u64 (m0':Int),.int .u64 (m1':Int),.int .u64 (m2':Int),.int .u64 (m3':Int)])∧Fr NoB u w'):=Lib.hid (fun u=>by have:=mul_any (natB Y) (natB Y) u hyl hyl;unfold numC at this;rw [hy4,hm4] at this;exact this)
   have hlm:∀ a,a<pP ↔ a % pP=a:=fun a=>⟨Nat.mod_eq_of_lt,fun h=>by rw [← h];exact Nat.mod_lt _ hp0⟩
   obtain ⟨b1,hb1⟩:∃ b,b=decide (natB X<pP):=⟨_,rfl⟩
   obtain ⟨b2,hb2⟩:∃ b,b=decide (natB Y<pP):=⟨_,rfl⟩
   obtain ⟨b3,hb3⟩:∃ b,b=decide (natB Y*natB Y % pP=rightP (natB X)):=⟨_,rfl⟩
   have hnr:nr<115792089237316195423570985008687907853269984665640564039457584007913129639936:=by rw [← HRP.out];exact hml _
   have E1:∀ u,(Op.equalIn 10000 176 (.agg #[.int .u64 (p0':Int),.int .u64 (p1':Int),.int .u64 (p2':Int),.int .u64 (p3':Int)]) (.agg #[.int .u64 (x0:Int),.int .u64 (x1:Int),.int .u64 (x2:Int),.int .u64 (x3:Int)])).run Tryz.prog u=.ok b1 u:=fun u=>by
    have:=num_eq_two (natB X % pP) (natB X) (hml _) hxl u
    unfold numC at this
    rw [hp4,hx4] at this
    rw [hb1,show decide (natB X<pP)=decide (natB X % pP=natB X) by simp only [hlm]]
    exact this
   have E2:∀ u,(Op.equalIn 10000 176 (.agg #[.int .u64 (q0':Int),.int .u64 (q1':Int),.int .u64 (q2':Int),.int .u64 (q3':Int)]) (.agg #[.int .u64 (y0:Int),.int .u64 (y1:Int),.int .u64 (y2:Int),.int .u64 (y3:Int)])).run Tryz.prog u=.ok b2 u:=fun u=>by
    have:=num_eq_two (natB Y % pP) (natB Y) (hml _) hyl u
    unfold numC at this
    rw [hq4,hy4] at this
    rw [hb2,show decide (natB Y<pP)=decide (natB Y % pP=natB Y) by simp only [hlm]]
    exact this
   have E3:∀ u,(Op.equalIn 10000 176 (.agg #[.int .u64 (m0':Int),.int .u64 (m1':Int),.int .u64 (m2':Int),.int .u64 (m3':Int)]) (.agg #[.int .u64 (r0:Int),.int .u64 (r1:Int),.int .u64 (r2:Int),.int .u64 (r3:Int)])).run Tryz.prog u=.ok b3 u:=fun u=>by
    have:=num_eq_two (natB Y*natB Y % pP) nr (hml _) hnr u
    unfold numC at this
    rw [hm4,hr4] at this
    rw [hb3,HRP.out]
    exact this
   have HR8:Hid (res=(b1&&b2&&b3)):=Lib.hid (by rw [HRS.out,ecP,onP,← hb1,← hb2,← hb3,hX,hY];simp)
   clear hb1 hb2 hb3 hlm hp4 hq4 hm4 hr4 hx4 hy4 hxl hyl hml hpl hp0 hnr HRP HRS hX hY
   have xc:=four_cells hbx8
   have yc:=four_cells hby8
   have rc:=four_cells hbr
   have HSS:Hid (∀ u,Fr NoB wc u→(fun w'=>w'.cell? ⟨gx,0,none⟩=some (.int .u64 (x0:Int))∧w'.cell? ⟨gx,1,none⟩=some (.int .u64 (x1:Int))∧w'.cell? ⟨gx,2,none⟩=some (.int .u64 (x2:Int))∧w'.cell? ⟨gx,3,none⟩=some (.int .u64 (x3:Int))∧w'.cell? ⟨gy,0,none⟩=some (.int .u64 (y0:Int))∧w'.cell? ⟨gy,1,none⟩=some (.int .u64 (y1:Int))∧w'.cell? ⟨gy,2,none⟩=some (.int .u64 (y2:Int))∧w'.cell? ⟨gy,3,none⟩=some (.int .u64 (y3:Int))∧w'.cell? ⟨gr,0,none⟩=some (.int .u64 (r0:Int))∧w'.cell? ⟨gr,1,none⟩=some (.int .u64 (r1:Int))∧w'.cell? ⟨gr,2,none⟩=some (.int .u64 (r2:Int))∧w'.cell? ⟨gr,3,none⟩=some (.int .u64 (r3:Int))) u):=Lib.hid (fun u fu=>⟨fu.cellOf xc.1,fu.cellOf xc.2.1,fu.cellOf xc.2.2.1,fu.cellOf xc.2.2.2,fu.cellOf yc.1,fu.cellOf yc.2.1,fu.cellOf yc.2.2.1,fu.cellOf yc.2.2.2,fu.cellOf rc.1,fu.cellOf rc.2.1,fu.cellOf rc.2.2.1,fu.cellOf rc.2.2.2⟩)
   have HPB:Hid (∀ u,Fr NoB wc u→Blk u (w.heap.size+1) 178 z12):=Lib.hid (fun u fu=>fu.blk HP8.out (fun e=>e))
   have HPF:Hid (∀ u,Fr NoB wc u→(fun w'=>w'.cell? ⟨w.heap.size+1,0,none⟩=some (.int .u64 0)∧w'.cell? ⟨w.heap.size+1,1,none⟩=some (.int .u64 0)∧w'.cell? ⟨w.heap.size+1,2,none⟩=some (.int .u64 0)∧w'.cell? ⟨w.heap.size+1,3,none⟩=some (.int .u64 0)∧w'.cell? ⟨w.heap.size+1,4,none⟩=some (.int .u64 0)∧w'.cell? ⟨w.heap.size+1,5,none⟩=some (.int .u64 0)∧w'.cell? ⟨w.heap.size+1,6,none⟩=some (.int .u64 0)∧w'.cell? ⟨w.heap.size+1,7,none⟩=some (.int .u64 0)∧w'.cell? ⟨w.heap.size+1,8,none⟩=some (.int .u64 0)∧w'.cell? ⟨w.heap.size+1,9,none⟩=some (.int .u64 0)∧w'.cell? ⟨w.heap.size+1,10,none⟩=some (.int .u64 0)∧w'.cell? ⟨w.heap.size+1,11,none⟩=some (.int .u64 0)∧w'.frozen? ⟨w.heap.size+1,0,none⟩=false∧w'.frozen? ⟨w.heap.size+1,1,none⟩=false∧w'.frozen? ⟨w.heap.size+1,2,none⟩=false∧w'.frozen? ⟨w.heap.size+1,3,none⟩=false∧w'.frozen? ⟨w.heap.size+1,4,none⟩=false∧w'.frozen? ⟨w.heap.size+1,5,none⟩=false∧w'.frozen? ⟨w.heap.size+1,6,none⟩=false∧w'.frozen? ⟨w.heap.size+1,7,none⟩=false∧w'.frozen? ⟨w.heap.size+1,8,none⟩=false∧w'.frozen? ⟨w.heap.size+1,9,none⟩=false∧w'.frozen? ⟨w.heap.size+1,10,none⟩=false∧w'.frozen? ⟨w.heap.size+1,11,none⟩=false) u):=Lib.hid (fun u fu=>by
    have h:=HPB.out u fu
    exact ⟨(h.cell 0).trans rfl,(h.cell 1).trans rfl,(h.cell 2).trans rfl,(h.cell 3).trans rfl,(h.cell 4).trans rfl,(h.cell 5).trans rfl,(h.cell 6).trans rfl,(h.cell 7).trans rfl,(h.cell 8).trans rfl,(h.cell 9).trans rfl,(h.cell 10).trans rfl,(h.cell 11).trans rfl,h.frozen 0,h.frozen 1,h.frozen 2,h.frozen 3,h.frozen 4,h.frozen 5,h.frozen 6,h.frozen 7,h.frozen 8,h.frozen 9,h.frozen 10,h.frozen 11⟩)
   have HS12:Hid (∀ u,Fr NoB wc u→(fun w'=>w'.cell? ⟨gx,0,none⟩=some (.int .u64 (x0:Int))∧w'.cell? ⟨gx,1,none⟩=some (.int .u64 (x1:Int))∧w'.cell? ⟨gx,2,none⟩=some (.int .u64 (x2:Int))∧w'.cell? ⟨gx,3,none⟩=some (.int .u64 (x3:Int))∧w'.cell? ⟨gy,0,none⟩=some (.int .u64 (y0:Int))∧w'.cell? ⟨gy,1,none⟩=some (.int .u64 (y1:Int))∧w'.cell? ⟨gy,2,none⟩=some (.int .u64 (y2:Int))∧w'.cell? ⟨gy,3,none⟩=some (.int .u64 (y3:Int))∧w'.cell? ⟨gr,0,none⟩=some (.int .u64 (r0:Int))∧w'.cell? ⟨gr,1,none⟩=some (.int .u64 (r1:Int))∧w'.cell? ⟨gr,2,none⟩=some (.int .u64 (r2:Int))∧w'.cell? ⟨gr,3,none⟩=some (.int .u64 (r3:Int))) ((((((((((((u.setCell ⟨w.heap.size+1,0,none⟩ (.int .u64 (x0:Int))).setCell ⟨w.heap.size+1,1,none⟩ (.int .u64 (x1:Int))).setCell ⟨w.heap.size+1,2,none⟩ (.int .u64 (x2:Int))).setCell ⟨w.heap.size+1,3,none⟩ (.int .u64 (x3:Int))).setCell ⟨w.heap.size+1,4,none⟩ (.int .u64 (y0:Int))).setCell ⟨w.heap.size+1,5,none⟩ (.int .u64 (y1:Int))).setCell ⟨w.heap.size+1,6,none⟩ (.int .u64 (y2:Int))).setCell ⟨w.heap.size+1,7,none⟩ (.int .u64 (y3:Int))).setCell ⟨w.heap.size+1,8,none⟩ (.int .u64 1)).setCell ⟨w.heap.size+1,9,none⟩ (.int .u64 0)).setCell ⟨w.heap.size+1,10,none⟩ (.int .u64 0)).setCell ⟨w.heap.size+1,11,none⟩ (.int .u64 0))):=Lib.hid (fun u fu=>by
    obtain ⟨a0,a1,a2,a3,a4,a5,a6,a7,a8,a9,a10,a11⟩:=HSS.out u fu
    exact ⟨(set12_other (V:=fun k=>([.int .u64 (x0:Int),.int .u64 (x1:Int),.int .u64 (x2:Int),.int .u64 (x3:Int),.int .u64 (y0:Int),.int .u64 (y1:Int),.int .u64 (y2:Int),.int .u64 (y3:Int),.int .u64 1,.int .u64 0,.int .u64 0,.int .u64 0]:List Value).getD k undef) nx).trans a0,(set12_other (V:=fun k=>([.int .u64 (x0:Int),.int .u64 (x1:Int),.int .u64 (x2:Int),.int .u64 (x3:Int),.int .u64 (y0:Int),.int .u64 (y1:Int),.int .u64 (y2:Int),.int .u64 (y3:Int),.int .u64 1,.int .u64 0,.int .u64 0,.int .u64 0]:List Value).getD k undef) nx).trans a1,(set12_other (V:=fun k=>([.int .u64 (x0:Int),.int .u64 (x1:Int),.int .u64 (x2:Int),.int .u64 (x3:Int),.int .u64 (y0:Int),.int .u64 (y1:Int),.int .u64 (y2:Int),.int .u64 (y3:Int),.int .u64 1,.int .u64 0,.int .u64 0,.int .u64 0]:List Value).getD k undef) nx).trans a2,(set12_other (V:=fun k=>([.int .u64 (x0:Int),.int .u64 (x1:Int),.int .u64 (x2:Int),.int .u64 (x3:Int),.int .u64 (y0:Int),.int .u64 (y1:Int),.int .u64 (y2:Int),.int .u64 (y3:Int),.int .u64 1,.int .u64 0,.int .u64 0,.int .u64 0]:List Value).getD k undef) nx).trans a3,(set12_other (V:=fun k=>([.int .u64 (x0:Int),.int .u64 (x1:Int),.int .u64 (x2:Int),.int .u64 (x3:Int),.int .u64 (y0:Int),.int .u64 (y1:Int),.int .u64 (y2:Int),.int .u64 (y3:Int),.int .u64 1,.int .u64 0,.int .u64 0,.int .u64 0]:List Value).getD k undef) ny).trans a4,(set12_other (V:=fun k=>([.int .u64 (x0:Int),.int .u64 (x1:Int),.int .u64 (x2:Int),.int .u64 (x3:Int),.int .u64 (y0:Int),.int .u64 (y1:Int),.int .u64 (y2:Int),.int .u64 (y3:Int),.int .u64 1,.int .u64 0,.int .u64 0,.int .u64 0]:List Value).getD k undef) ny).trans a5,(set12_other (V:=fun k=>([.int .u64 (x0:Int),.int .u64 (x1:Int),.int .u64 (x2:Int),.int .u64 (x3:Int),.int .u64 (y0:Int),.int .u64 (y1:Int),.int .u64 (y2:Int),.int .u64 (y3:Int),.int .u64 1,.int .u64 0,.int .u64 0,.int .u64 0]:List Value).getD k undef) ny).trans a6,(set12_other (V:=fun k=>([.int .u64 (x0:Int),.int .u64 (x1:Int),.int .u64 (x2:Int),.int .u64 (x3:Int),.int .u64 (y0:Int),.int .u64 (y1:Int),.int .u64 (y2:Int),.int .u64 (y3:Int),.int .u64 1,.int .u64 0,.int .u64 0,.int .u64 0]:List Value).getD k undef) ny).trans a7,(set12_other (V:=fun k=>([.int .u64 (x0:Int),.int .u64 (x1:Int),.int .u64 (x2:Int),.int .u64 (x3:Int),.int .u64 (y0:Int),.int .u64 (y1:Int),.int .u64 (y2:Int),.int .u64 (y3:Int),.int .u64 1,.int .u64 0,.int .u64 0,.int .u64 0]:List Value).getD k undef) nr').trans a8,(set12_other (V:=fun k=>([.int .u64 (x0:Int),.int .u64 (x1:Int),.int .u64 (x2:Int),.int .u64 (x3:Int),.int .u64 (y0:Int),.int .u64 (y1:Int),.int .u64 (y2:Int),.int .u64 (y3:Int),.int .u64 1,.int .u64 0,.int .u64 0,.int .u64 0]:List Value).getD k undef) nr').trans a9,(set12_other (V:=fun k=>([.int .u64 (x0:Int),.int .u64 (x1:Int),.int .u64 (x2:Int),.int .u64 (x3:Int),.int .u64 (y0:Int),.int .u64 (y1:Int),.int .u64 (y2:Int),.int .u64 (y3:Int),.int .u64 1,.int .u64 0,.int .u64 0,.int .u64 0]:List Value).getD k undef) nr').trans a10,(set12_other (V:=fun k=>([.int .u64 (x0:Int),.int .u64 (x1:Int),.int .u64 (x2:Int),.int .u64 (x3:Int),.int .u64 (y0:Int),.int .u64 (y1:Int),.int .u64 (y2:Int),.int .u64 (y3:Int),.int .u64 1,.int .u64 0,.int .u64 0,.int .u64 0]:List Value).getD k undef) nr').trans a11⟩)
   clear xc yc rc hbx8 hby8 hbr HP8
   obtain ⟨s0,s1,s2,s3,s4,s5,s6,s7,s8,s9,s10,s11⟩:=HSS.out wc (Fr.refl _ _)
   cases b1 with
   | false=>
     go_upto_region 8 with fail
     refine wp_region_held_drew (S:=(fun w'=>w'.cell? ⟨gx,0,none⟩=some (.int .u64 (x0:Int))∧w'.cell? ⟨gx,1,none⟩=some (.int .u64 (x1:Int))∧w'.cell? ⟨gx,2,none⟩=some (.int .u64 (x2:Int))∧w'.cell? ⟨gx,3,none⟩=some (.int .u64 (x3:Int))∧w'.cell? ⟨gy,0,none⟩=some (.int .u64 (y0:Int))∧w'.cell? ⟨gy,1,none⟩=some (.int .u64 (y1:Int))∧w'.cell? ⟨gy,2,none⟩=some (.int .u64 (y2:Int))∧w'.cell? ⟨gy,3,none⟩=some (.int .u64 (y3:Int))∧w'.cell? ⟨gr,0,none⟩=some (.int .u64 (r0:Int))∧w'.cell? ⟨gr,1,none⟩=some (.int .u64 (r1:Int))∧w'.cell? ⟨gr,2,none⟩=some (.int .u64 (r2:Int))∧w'.cell? ⟨gr,3,none⟩=some (.int .u64 (r3:Int)))) (by kernel_rfl) (HSS.out _ (Fr.refl _ _).drew) (fun hHeld => ?_)
     refine takeM 0 ?_ rfl rfl (by kernel_rfl) (fun _ _ _ h=>h) rfl ?_ (by assumption) ?_
     rotate_left
     ·(intro w hSw;(try dsimp only at hSw);go_simp;(try with_reducible rfl))
     simp only [Act.put,List.setIfInBounds_toArray,List.set_cons_zero,List.set_cons_succ]
     refine takeM 1 ?_ rfl rfl (by kernel_rfl) (fun _ _ _ h=>h) rfl ?_ (by assumption) ?_
     rotate_left
     ·(intro w hSw;(try dsimp only at hSw);go_simp;(try with_reducible rfl))
     simp only [Act.put,List.setIfInBounds_toArray,List.set_cons_zero,List.set_cons_succ]
     refine takeM 2 ?_ rfl rfl (by kernel_rfl) (fun _ _ _ h=>h) rfl ?_ (by assumption) ?_
     rotate_left
     ·(intro w hSw;(try dsimp only at hSw);go_simp;(try with_reducible rfl))
     simp only [Act.put,List.setIfInBounds_toArray,List.set_cons_zero,List.set_cons_succ]
     refine takeM 4 ?_ rfl rfl (by kernel_rfl) (fun _ _ _ h=>h) rfl ?_ (by assumption) ?_
     rotate_left
     ·(intro w hSw;(try dsimp only at hSw);go_simp;(try with_reducible rfl))
     simp only [Act.put,List.setIfInBounds_toArray,List.set_cons_zero,List.set_cons_succ]
     refine takeM 7 ?_ rfl rfl (by kernel_rfl) (fun _ _ _ h=>h) rfl ?_ (by assumption) ?_
     rotate_left
     ·(intro w hSw;(try dsimp only at hSw);go_simp;(try with_reducible rfl))
     simp only [Act.put,List.setIfInBounds_toArray,List.set_cons_zero,List.set_cons_succ]
     refine takeM 3 ?_ rfl rfl (by kernel_rfl) (fun _ _ _ h=>h) rfl ?_ (by assumption) ?_
     rotate_left
     ·(intro w hSw;(try dsimp only at hSw);go_simp;(try with_reducible rfl))
     simp only [Act.put,List.setIfInBounds_toArray,List.set_cons_zero,List.set_cons_succ]
     refine readyL 5 (some 46) rfl rfl (by kernel_rfl) (fun K hK => ?_)
     go_simp
     (go_at_call 168;(with_reducible refine (KM.out _).mono ?_);rintro e vv ⟨rfl,t'⟩;have t1:Fr NoB wc vv:=(Fr.refl NoB wc).drew.trans t')
     (try go_wp2_with fail)
     refine hK.out _ _ (by first|(with_reducible exact HSS.out _ t1)|exact HSS.out _ t1) (fun hHeld => ?_)
     clear hK K
     refine readyL 6 (some 47) rfl rfl (by kernel_rfl) (fun K hK => ?_)
     go_simp
     (go_at_call 167;(with_reducible refine (KBX.out _).mono ?_);rintro e vv ⟨rfl,t'⟩;have t2:Fr NoB wc vv:=t1.trans t')
     have hbP:=HPB.out _ t2
     obtain ⟨p0,p1,p2,p3,p4,p5,p6,p7,p8,p9,p10,p11,p12,p13,p14,p15,p16,p17,p18,p19,p20,p21,p22,p23⟩:=HPF.out _ t2;have hfin:=Lib.hid (HS12.out _ t2)
     (try go_wp2_with fail)
     refine hK.out _ _ (by first|(with_reducible exact HSS.out _ t2)|exact HSS.out _ t2) (fun hHeld => ?_)
     clear hK K
     refine takeM 8 ?_ rfl rfl (by kernel_rfl) (fun _ _ _ h=>h) rfl ?_ (by assumption) ?_
     rotate_left
     ·(intro w hSw;(try dsimp only at hSw);go_simp;(try with_reducible rfl))
     simp only [Act.put,List.setIfInBounds_toArray,List.set_cons_zero,List.set_cons_succ]
     refine takeM 9 (.bool false) rfl rfl (by kernel_rfl) (fun _ _ _ h=>h) rfl (fun _ _=>rfl) (by assumption) ?_
     simp only [Act.put,List.setIfInBounds_toArray,List.set_cons_zero,List.set_cons_succ]
     refine skipM 10 rfl rfl (by kernel_rfl) (fun _ _ _ h=>h) rfl (by assumption) ?_
     simp only [Act.put,List.setIfInBounds_toArray,List.set_cons_zero,List.set_cons_succ]
     refine skipM 11 rfl rfl (by kernel_rfl) (fun _ _ _ h=>h) rfl (by assumption) ?_
     simp only [Act.put,List.setIfInBounds_toArray,List.set_cons_zero,List.set_cons_succ]
     refine skipM 12 rfl rfl (by kernel_rfl) (fun _ _ _ h=>h) rfl (by assumption) ?_
     simp only [Act.put,List.setIfInBounds_toArray,List.set_cons_zero,List.set_cons_succ]
     refine skipM 13 rfl rfl (by kernel_rfl) (fun _ _ _ h=>h) rfl (by assumption) ?_
     simp only [Act.put,List.setIfInBounds_toArray,List.set_cons_zero,List.set_cons_succ]
     refine skipM 14 rfl rfl (by kernel_rfl) (fun _ _ _ h=>h) rfl (by assumption) ?_
     simp only [Act.put,List.setIfInBounds_toArray,List.set_cons_zero,List.set_cons_succ]
     refine takeM 15 (.bool false) rfl rfl (by kernel_rfl) (fun _ _ _ h=>h) rfl (fun _ _=>rfl) (by assumption) ?_
     simp only [Act.put,List.setIfInBounds_toArray,List.set_cons_zero,List.set_cons_succ]
     refine takeM 16 (.bool false) rfl rfl (by kernel_rfl) (fun _ _ _ h=>h) rfl (fun _ _=>rfl) (by assumption) ?_
     simp only [Act.put,List.setIfInBounds_toArray,List.set_cons_zero,List.set_cons_succ]
     refine skipM 17 rfl rfl (by kernel_rfl) (fun _ _ _ h=>h) rfl (by assumption) ?_
     simp only [Act.put,List.setIfInBounds_toArray,List.set_cons_zero,List.set_cons_succ]
     refine skipM 18 rfl rfl (by kernel_rfl) (fun _ _ _ h=>h) rfl (by assumption) ?_
     simp only [Act.put,List.setIfInBounds_toArray,List.set_cons_zero,List.set_cons_succ]
     refine skipM 19 rfl rfl (by kernel_rfl) (fun _ _ _ h=>h) rfl (by assumption) ?_
     simp only [Act.put,List.setIfInBounds_toArray,List.set_cons_zero,List.set_cons_succ]
     refine skipM 20 rfl rfl (by kernel_rfl) (fun _ _ _ h=>h) rfl (by assumption) ?_
     simp only [Act.put,List.setIfInBounds_toArray,List.set_cons_zero,List.set_cons_succ]
     refine skipM 21 rfl rfl (by kernel_rfl) (fun _ _ _ h=>h) rfl (by assumption) ?_
     simp only [Act.put,List.setIfInBounds_toArray,List.set_cons_zero,List.set_cons_succ]
     refine takeM 22 (.bool false) rfl rfl (by kernel_rfl) (fun _ _ _ h=>h) rfl (fun _ _=>rfl) (by assumption) ?_
     simp only [Act.put,List.setIfInBounds_toArray,List.set_cons_zero,List.set_cons_succ]
     refine readyL 23 none rfl rfl (by kernel_rfl) (fun K hK => ?_)
     go_simp
     refine hK.out _ _ (by first|(with_reducible exact hfin.out)|exact hfin.out) (fun hHeld => ?_)
     clear hK K
     refine takeM 24 (.bool false) rfl rfl (by kernel_rfl) (fun _ _ _ h=>h) rfl (fun _ _=>rfl) (by assumption) ?_
     simp only [Act.put,List.setIfInBounds_toArray,List.set_cons_zero,List.set_cons_succ]
     refine wpAnyH_done (by kernel_rfl) ?_ _
     go_wp2_with fail
     exact bodyPost_ret (point_back2 2 3 rfl _ _ (w.heap.size+1) [x0,x1,x2,x3,y0,y1,y2,y3,1,0,0,0] rfl (.bool false) rfl rfl (set12_row (X:=fun k=>[x0,x1,x2,x3,y0,y1,y2,y3,1,0,0,0].getD k 0) hbP)) rfl ⟨⟨[x0,x1,x2,x3,y0,y1,y2,y3,1,0,0,0],rfl,by rw [HR8.out];simp⟩,set12_fr (V:=fun k=>.int .u64 (([x0,x1,x2,x3,y0,y1,y2,y3,1,0,0,0].getD k 0:Nat):Int)) (f18.trans t2) (by omega)⟩
   | true=>
    cases b2 with
    | false=>
     go_upto_region 8 with fail
     refine wp_region_held_drew (S:=(fun w'=>w'.cell? ⟨gx,0,none⟩=some (.int .u64 (x0:Int))∧w'.cell? ⟨gx,1,none⟩=some (.int .u64 (x1:Int))∧w'.cell? ⟨gx,2,none⟩=some (.int .u64 (x2:Int))∧w'.cell? ⟨gx,3,none⟩=some (.int .u64 (x3:Int))∧w'.cell? ⟨gy,0,none⟩=some (.int .u64 (y0:Int))∧w'.cell? ⟨gy,1,none⟩=some (.int .u64 (y1:Int))∧w'.cell? ⟨gy,2,none⟩=some (.int .u64 (y2:Int))∧w'.cell? ⟨gy,3,none⟩=some (.int .u64 (y3:Int))∧w'.cell? ⟨gr,0,none⟩=some (.int .u64 (r0:Int))∧w'.cell? ⟨gr,1,none⟩=some (.int .u64 (r1:Int))∧w'.cell? ⟨gr,2,none⟩=some (.int .u64 (r2:Int))∧w'.cell? ⟨gr,3,none⟩=some (.int .u64 (r3:Int)))) (by kernel_rfl) (HSS.out _ (Fr.refl _ _).drew) (fun hHeld => ?_)
     refine takeM 0 ?_ rfl rfl (by kernel_rfl) (fun _ _ _ h=>h) rfl ?_ (by assumption) ?_
     rotate_left
     ·(intro w hSw;(try dsimp only at hSw);go_simp;(try with_reducible rfl))
     simp only [Act.put,List.setIfInBounds_toArray,List.set_cons_zero,List.set_cons_succ]
     refine takeM 1 ?_ rfl rfl (by kernel_rfl) (fun _ _ _ h=>h) rfl ?_ (by assumption) ?_
     rotate_left
     ·(intro w hSw;(try dsimp only at hSw);go_simp;(try with_reducible rfl))
     simp only [Act.put,List.setIfInBounds_toArray,List.set_cons_zero,List.set_cons_succ]
     refine takeM 2 ?_ rfl rfl (by kernel_rfl) (fun _ _ _ h=>h) rfl ?_ (by assumption) ?_
     rotate_left
     ·(intro w hSw;(try dsimp only at hSw);go_simp;(try with_reducible rfl))
     simp only [Act.put,List.setIfInBounds_toArray,List.set_cons_zero,List.set_cons_succ]
     refine takeM 4 ?_ rfl rfl (by kernel_rfl) (fun _ _ _ h=>h) rfl ?_ (by assumption) ?_
     rotate_left
     ·(intro w hSw;(try dsimp only at hSw);go_simp;(try with_reducible rfl))
     simp only [Act.put,List.setIfInBounds_toArray,List.set_cons_zero,List.set_cons_succ]
     refine takeM 7 ?_ rfl rfl (by kernel_rfl) (fun _ _ _ h=>h) rfl ?_ (by assumption) ?_
     rotate_left
     ·(intro w hSw;(try dsimp only at hSw);go_simp;(try with_reducible rfl))
     simp only [Act.put,List.setIfInBounds_toArray,List.set_cons_zero,List.set_cons_succ]
     refine takeM 3 ?_ rfl rfl (by kernel_rfl) (fun _ _ _ h=>h) rfl ?_ (by assumption) ?_
     rotate_left
     ·(intro w hSw;(try dsimp only at hSw);go_simp;(try with_reducible rfl))
     simp only [Act.put,List.setIfInBounds_toArray,List.set_cons_zero,List.set_cons_succ]
     refine readyL 5 (some 46) rfl rfl (by kernel_rfl) (fun K hK => ?_)
     go_simp
     (go_at_call 168;(with_reducible refine (KM.out _).mono ?_);rintro e vv ⟨rfl,t'⟩;have t1:Fr NoB wc vv:=(Fr.refl NoB wc).drew.trans t')
     (try go_wp2_with fail)
     refine hK.out _ _ (by first|(with_reducible exact HSS.out _ t1)|exact HSS.out _ t1) (fun hHeld => ?_)
     clear hK K
     refine readyL 6 (some 47) rfl rfl (by kernel_rfl) (fun K hK => ?_)
     go_simp
     (go_at_call 167;(with_reducible refine (KBX.out _).mono ?_);rintro e vv ⟨rfl,t'⟩;have t2:Fr NoB wc vv:=t1.trans t')
     (try go_wp2_with fail)
     refine hK.out _ _ (by first|(with_reducible exact HSS.out _ t2)|exact HSS.out _ t2) (fun hHeld => ?_)
     clear hK K
     refine takeM 8 ?_ rfl rfl (by kernel_rfl) (fun _ _ _ h=>h) rfl ?_ (by assumption) ?_
     rotate_left
     ·(intro w hSw;(try dsimp only at hSw);go_simp;(try with_reducible rfl))
     simp only [Act.put,List.setIfInBounds_toArray,List.set_cons_zero,List.set_cons_succ]
     refine takeM 9 (.bool true) rfl rfl (by kernel_rfl) (fun _ _ _ h=>h) rfl (fun _ _=>rfl) (by assumption) ?_
     simp only [Act.put,List.setIfInBounds_toArray,List.set_cons_zero,List.set_cons_succ]
     refine takeM 10 ?_ rfl rfl (by kernel_rfl) (fun _ _ _ h=>h) rfl ?_ (by assumption) ?_
     rotate_left
     ·(intro w hSw;(try dsimp only at hSw);go_simp;(try with_reducible rfl))
     simp only [Act.put,List.setIfInBounds_toArray,List.set_cons_zero,List.set_cons_succ]
     refine takeM 13 ?_ rfl rfl (by kernel_rfl) (fun _ _ _ h=>h) rfl ?_ (by assumption) ?_
     rotate_left
     ·(intro w hSw;(try dsimp only at hSw);go_simp;(try with_reducible rfl))
     simp only [Act.put,List.setIfInBounds_toArray,List.set_cons_zero,List.set_cons_succ]
     refine readyL 11 (some 52) rfl rfl (by kernel_rfl) (fun K hK => ?_)
     go_simp
     (go_at_call 168;(with_reducible refine (KM.out _).mono ?_);rintro e vv ⟨rfl,t'⟩;have t3:Fr NoB wc vv:=t2.trans t')
     (try go_wp2_with fail)
     refine hK.out _ _ (by first|(with_reducible exact HSS.out _ t3)|exact HSS.out _ t3) (fun hHeld => ?_)
     clear hK K
     refine readyL 12 (some 53) rfl rfl (by kernel_rfl) (fun K hK => ?_)
     go_simp
     (go_at_call 167;(with_reducible refine (KBY.out _).mono ?_);rintro e vv ⟨rfl,t'⟩;have t4:Fr NoB wc vv:=t3.trans t')
     have hbP:=HPB.out _ t4
     obtain ⟨p0,p1,p2,p3,p4,p5,p6,p7,p8,p9,p10,p11,p12,p13,p14,p15,p16,p17,p18,p19,p20,p21,p22,p23⟩:=HPF.out _ t4;have hfin:=Lib.hid (HS12.out _ t4)
     (try go_wp2_with fail)
     refine hK.out _ _ (by first|(with_reducible exact HSS.out _ t4)|exact HSS.out _ t4) (fun hHeld => ?_)
     clear hK K
     refine takeM 14 ?_ rfl rfl (by kernel_rfl) (fun _ _ _ h=>h) rfl ?_ (by assumption) ?_
     rotate_left
     ·(intro w hSw;(try dsimp only at hSw);go_simp;(try with_reducible rfl))
     simp only [Act.put,List.setIfInBounds_toArray,List.set_cons_zero,List.set_cons_succ]
     refine takeM 15 (.bool false) rfl rfl (by kernel_rfl) (fun _ _ _ h=>h) rfl (fun _ _=>rfl) (by assumption) ?_
     simp only [Act.put,List.setIfInBounds_toArray,List.set_cons_zero,List.set_cons_succ]
     refine takeM 16 (.bool false) rfl rfl (by kernel_rfl) (fun _ _ _ h=>h) rfl (fun _ _=>rfl) (by assumption) ?_
     simp only [Act.put,List.setIfInBounds_toArray,List.set_cons_zero,List.set_cons_succ]
     refine skipM 17 rfl rfl (by kernel_rfl) (fun _ _ _ h=>h) rfl (by assumption) ?_
     simp only [Act.put,List.setIfInBounds_toArray,List.set_cons_zero,List.set_cons_succ]
     refine skipM 18 rfl rfl (by kernel_rfl) (fun _ _ _ h=>h) rfl (by assumption) ?_
     simp only [Act.put,List.setIfInBounds_toArray,List.set_cons_zero,List.set_cons_succ]
     refine skipM 19 rfl rfl (by kernel_rfl) (fun _ _ _ h=>h) rfl (by assumption) ?_
     simp only [Act.put,List.setIfInBounds_toArray,List.set_cons_zero,List.set_cons_succ]
     refine skipM 20 rfl rfl (by kernel_rfl) (fun _ _ _ h=>h) rfl (by assumption) ?_
     simp only [Act.put,List.setIfInBounds_toArray,List.set_cons_zero,List.set_cons_succ]
     refine skipM 21 rfl rfl (by kernel_rfl) (fun _ _ _ h=>h) rfl (by assumption) ?_
     simp only [Act.put,List.setIfInBounds_toArray,List.set_cons_zero,List.set_cons_succ]
     refine takeM 22 (.bool false) rfl rfl (by kernel_rfl) (fun _ _ _ h=>h) rfl (fun _ _=>rfl) (by assumption) ?_
     simp only [Act.put,List.setIfInBounds_toArray,List.set_cons_zero,List.set_cons_succ]
     refine readyL 23 none rfl rfl (by kernel_rfl) (fun K hK => ?_)
     go_simp
     refine hK.out _ _ (by first|(with_reducible exact hfin.out)|exact hfin.out) (fun hHeld => ?_)
     clear hK K
     refine takeM 24 (.bool false) rfl rfl (by kernel_rfl) (fun _ _ _ h=>h) rfl (fun _ _=>rfl) (by assumption) ?_
     simp only [Act.put,List.setIfInBounds_toArray,List.set_cons_zero,List.set_cons_succ]
     refine wpAnyH_done (by kernel_rfl) ?_ _
     go_wp2_with fail
     exact bodyPost_ret (point_back2 2 3 rfl _ _ (w.heap.size+1) [x0,x1,x2,x3,y0,y1,y2,y3,1,0,0,0] rfl (.bool false) rfl rfl (set12_row (X:=fun k=>[x0,x1,x2,x3,y0,y1,y2,y3,1,0,0,0].getD k 0) hbP)) rfl ⟨⟨[x0,x1,x2,x3,y0,y1,y2,y3,1,0,0,0],rfl,by rw [HR8.out];simp⟩,set12_fr (V:=fun k=>.int .u64 (([x0,x1,x2,x3,y0,y1,y2,y3,1,0,0,0].getD k 0:Nat):Int)) (f18.trans t4) (by omega)⟩
    | true=>
     go_upto_region 8 with fail
     go_region_held3 (fun w'=>w'.cell? ⟨gx,0,none⟩=some (.int .u64 (x0:Int))∧w'.cell? ⟨gx,1,none⟩=some (.int .u64 (x1:Int))∧w'.cell? ⟨gx,2,none⟩=some (.int .u64 (x2:Int))∧w'.cell? ⟨gx,3,none⟩=some (.int .u64 (x3:Int))∧w'.cell? ⟨gy,0,none⟩=some (.int .u64 (y0:Int))∧w'.cell? ⟨gy,1,none⟩=some (.int .u64 (y1:Int))∧w'.cell? ⟨gy,2,none⟩=some (.int .u64 (y2:Int))∧w'.cell? ⟨gy,3,none⟩=some (.int .u64 (y3:Int))∧w'.cell? ⟨gr,0,none⟩=some (.int .u64 (r0:Int))∧w'.cell? ⟨gr,1,none⟩=some (.int .u64 (r1:Int))∧w'.cell? ⟨gr,2,none⟩=some (.int .u64 (r2:Int))∧w'.cell? ⟨gr,3,none⟩=some (.int .u64 (r3:Int))) (first|(with_reducible exact hfin.out)|(with_reducible exact HSS.out _ t5)|(with_reducible exact HSS.out _ t4)|(with_reducible exact HSS.out _ t3)|(with_reducible exact HSS.out _ t2)|(with_reducible exact HSS.out _ t1)|go_keep) (first|(go_at_call 168;(with_reducible refine (KM.out _).mono ?_);rintro e vv ⟨rfl,t'⟩;(first|(with_reducible have t1:Fr NoB wc vv:=(Fr.refl NoB wc).drew.trans t')|(with_reducible have t3:Fr NoB wc vv:=t2.trans t')))|(go_at_call 167;(with_reducible refine (KBX.out _).mono ?_);rintro e vv ⟨rfl,t'⟩;(first|(with_reducible have t2:Fr NoB wc vv:=t1.trans t')))|(go_at_call 167;(with_reducible refine (KBY.out _).mono ?_);rintro e vv ⟨rfl,t'⟩;(first|(with_reducible have t4:Fr NoB wc vv:=t3.trans t')))|(go_at_call 166;(with_reducible refine (KMY.out _).mono ?_);rintro e vv ⟨rfl,t'⟩;(first|(with_reducible have t5:Fr NoB wc vv:=t4.trans t'));have hbP:=HPB.out _ t5;obtain ⟨p0,p1,p2,p3,p4,p5,p6,p7,p8,p9,p10,p11,p12,p13,p14,p15,p16,p17,p18,p19,p20,p21,p22,p23⟩:=HPF.out _ t5;have hfin:=Lib.hid (HS12.out _ t5)))
     go_wp2_with fail
     exact bodyPost_ret (point_back2 2 3 rfl _ _ (w.heap.size+1) [x0,x1,x2,x3,y0,y1,y2,y3,1,0,0,0] rfl (.bool b3) rfl rfl (set12_row (X:=fun k=>[x0,x1,x2,x3,y0,y1,y2,y3,1,0,0,0].getD k 0) hbP)) rfl ⟨⟨[x0,x1,x2,x3,y0,y1,y2,y3,1,0,0,0],rfl,by rw [HR8.out];simp⟩,set12_fr (V:=fun k=>.int .u64 (([x0,x1,x2,x3,y0,y1,y2,y3,1,0,0,0].getD k 0:Nat):Int)) (f18.trans t5) (by omega)⟩
  ·have kX:((X.length:Nat):Int)=32:=by omega
   have kY:¬ ((Y.length:Nat):Int)=32:=by omega
   have hr0:res=false:=by rw [HRS.out];simp [ecP,hY]
   go_wp2_with (refine point_store rfl _ _ rfl (w.heap.size+1) l12 rfl rfl rfl _ b2 rfl ?_)
   exact bodyPost_ret (point_back2 2 3 rfl _ _ (w.heap.size+1) l12 rfl (.bool false) rfl rfl hz12) rfl ⟨⟨l12,rfl,by rw [hr0]⟩,fz12⟩
 ·have kX:¬ ((X.length:Nat):Int)=32:=by omega
  have hr0:res=false:=by rw [HRS.out];simp [ecP,hX]
  go_wp2_with (refine point_store rfl _ _ rfl (w.heap.size+1) l12 rfl rfl rfl _ b2 rfl ?_)
  exact bodyPost_ret (point_back2 2 3 rfl _ _ (w.heap.size+1) l12 rfl (.bool false) rfl rfl hz12) rfl ⟨⟨l12,rfl,by rw [hr0]⟩,fz12⟩
theorem eccheck_any (X Y:Bs) (w:World) :
  Calls Tryz.prog 70 #[.agg #[.string ⟨X.toArray⟩,.string ⟨Y.toArray⟩]] w fun e w'=>e=.returned (.int .i64 (if ecP X Y then 0 else 50))∧Fr NoB w w':=by
 have b0:=Blk.new w 25 #[.string ⟨X.toArray⟩,.string ⟨Y.toArray⟩]
 have f0:Fr NoB w (w.alloc (.cells #[.string ⟨X.toArray⟩,.string ⟨Y.toArray⟩] 25)):=(Fr.refl _ _).alloc _
 go_enter Tryz.func70,Tryz.ntmps70
 go_upto_region 1 with fail
 generalize w.alloc (.cells #[.string ⟨X.toArray⟩,.string ⟨Y.toArray⟩] 25)=W at *
 have q0:W.cell? ⟨w.heap.size,0,none⟩=some (.string ⟨X.toArray⟩):=(b0.cell 0).trans rfl
 have q1:W.cell? ⟨w.heap.size,1,none⟩=some (.string ⟨Y.toArray⟩):=(b0.cell 1).trans rfl
 go_upto_region 2 with (first|(go_at_call 118;(with_reducible refine (of_any X Y _).mono ?_);rintro e w1 ⟨⟨l,hl,rfl⟩,f1⟩;have b3:=Blk.new w1 178 z12)|(refine point_store rfl _ _ rfl w1.heap.size l hl rfl rfl _ b3 rfl ?_))
 have f2:Fr NoB W ((w1.alloc (.cells z12 178)).setRow w1.heap.size (u64C l)):=f1.trans (((Fr.refl NoB w1).alloc _).setRow _ _ (Or.inl (Nat.le_refl _)))
 have d0:=f2.cellOf q0
 have d1:=f2.cellOf q1
 have f3:=f0.trans f2
 clear f1 f2 b3 q0 q1 b0 f0
 generalize (w1.alloc (.cells z12 178)).setRow w1.heap.size (u64C l)=W2 at *
 by_cases hE:X=[]∧Y=[]
 ·obtain ⟨rfl,rfl⟩:=hE
  go_wp2_with fail
  all_goals (go_ret;exact ⟨rfl,f3⟩)
 ·have hem:(X.isEmpty&&Y.isEmpty)=false:=by cases X<;>cases Y<;>simp_all
  rw [hem,Bool.false_or]
  cases hb:ecP X Y with
  | false=>
   go_wp2_with fail
   all_goals (go_ret;exact ⟨rfl,f3⟩)
  | true=>
   by_cases hX:X=[]
   ·have hY:Y≠[]:=fun e=>hE ⟨hX,e⟩
    have hY':Y.isEmpty=false:=by cases Y<;>simp_all
    subst hX
    go_wp2_with fail
    all_goals (go_ret;first|exact ⟨rfl,f3⟩|(exfalso;simp_all))
   ·go_wp2_with fail
    all_goals (go_ret;first|exact ⟨rfl,f3⟩|(exfalso;simp_all))
end Go.Proofs.YtbifjamddbpcjaaGreatDoor
