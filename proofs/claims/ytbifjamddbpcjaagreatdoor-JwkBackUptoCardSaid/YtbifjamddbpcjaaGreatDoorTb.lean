/- JwkBack: the walk. (Printed by gen_tb.py.) -/
import Derived.Test.YtbifjamddbpcjaaGreatDoorTc
import Derived.Test.YtbifjamddbpcjaaGreatDoorTa
import Derived.Test.YtbifjamddbpcjaaGreatDoorOk
import Derived.Test.YtbifjamddbpcjaaGreatDoorEv
namespace Go.Proofs.YtbifjamddbpcjaaGreatDoor
set_option maxRecDepth 100000
set_option maxHeartbeats 25600000
open Go.RowKit
theorem more_at {W wx:World} {l:List (Bs×Bs)} {cs:List Value} {gk gl c1 c2 n1:Nat} {cur1 cur2:Array Value} (hn:n1=1+l.length) (hl:l.length≤1000) (hcs:RCells (All W) W (l.map (fun p=>textJ p.2)) cs) (hks:∀ s∈l.map (fun p=>p.1),s.length≤big) (hf:Fr NoB W wx)
  (r1:Row0 wx gk 9 ((nUse::l.map (fun p=>p.1)).map sV) cur1) (r2:Row0 wx gl 31 ([.int .i64 0,.int .i64 0,.string ⟨#[]⟩,.slice none 0 0,.slice none 0 0]++cs) cur2) :
  RAt (All wx) wx (moreJ nUse l) (jV 6 0 [] (.slice (some ⟨gl,0,none⟩) n1 c2) (.slice (some ⟨gk,0,none⟩) n1 c1)):=by
 rw [moreJ]
 simp only [RAt]
 subst hn
 refine ⟨_,_,rfl,by unfold IntOk;omega,by unfold IntOk;omega,by simp,⟨Or.inr ⟨gk,0,c1,by simp;omega,r1.b.lt,fun i x hx=>by rw [Nat.zero_add];exact r1.cell i x hx⟩,by simp only [List.length_cons,List.length_map];unfold big;omega,?_⟩,by simp only [List.length_cons,List.length_map];unfold big;omega,_,?_,Or.inr ⟨gl,0,c2,by simp;omega,r2.b.lt,fun i x hx=>by rw [Nat.zero_add];exact r2.cell i x hx⟩⟩
 ·intro s hs
  rcases List.mem_cons.1 hs with rfl|hs
  ·unfold big;exact Nat.le_of_ble_eq_true rfl
  ·exact hks s hs
 ·simp only [RCells]
  exact ⟨_,_,_,_,_,cs,rfl,nul_at _ _,RCells.mono (fun g hg=>Nat.lt_of_lt_of_le hg hf.size) _ _ (RCells.fr (fun g hg=>hf.block g hg (fun e=>e)) _ _ hcs)⟩
theorem onek_at {w:World} {k:Ky} {x0 x1 x2 x3 x4:Value} (g g2 gk:Nat) (ha:RAt (All w) w (valK k) (.agg #[x0,x1,x2,x3,x4])) (hg:Blk w g 31 #[x0,x1,x2,x3,x4]) (hg2:Blk w g2 31 #[.int .i64 5,.int .i64 0,.string ⟨#[]⟩,.slice (some ⟨g,0,none⟩) 1 1,.slice none 0 0]) (hk:Blk w gk 9 #[.string ⟨#[107,101,121,115]⟩]) :
  RAt (All w) w (oneJ k) (jV 6 0 [] (.slice (some ⟨g2,0,none⟩) 1 1) (.slice (some ⟨gk,0,none⟩) 1 1)):=by
 have h5:RAt (All w) w (.mk 5 0 [] [valK k] []) (.agg #[.int .i64 5,.int .i64 0,.string ⟨#[]⟩,.slice (some ⟨g,0,none⟩) 1 1,.slice none 0 0]):=by
  simp only [RAt]
  refine ⟨_,_,rfl,by unfold IntOk;omega,by unfold IntOk;omega,by simp,⟨Or.inl ⟨rfl,_,_,rfl⟩,by simp,by simp⟩,by unfold big;simp,[x0,x1,x2,x3,x4],?_,Or.inr ⟨g,0,1,rfl,hg.lt,?_⟩⟩
  ·simp only [RCells]
   exact ⟨_,_,_,_,_,[],rfl,ha,rfl⟩
  ·intro i x hxi
   rw [Nat.zero_add,hg.cell]
   simpa using hxi
 rw [oneJ]
 simp only [RAt]
 refine ⟨_,_,rfl,by unfold IntOk;omega,by unfold IntOk;omega,by simp,⟨Or.inr ⟨gk,0,1,rfl,hk.lt,?_⟩,by unfold big;simp,?_⟩,by unfold big;simp,[.int .i64 5,.int .i64 0,.string ⟨#[]⟩,.slice (some ⟨g,0,none⟩) 1 1,.slice none 0 0],?_,Or.inr ⟨g2,0,1,rfl,hg2.lt,?_⟩⟩
 ·intro i x hxi
  have hx2:([.string ⟨#[107,101,121,115]⟩]:List Value)[i]?=some x:=hxi
  rw [Nat.zero_add,hk.cell]
  simpa using hx2
 ·intro s hs
  rw [List.mem_singleton] at hs
  subst hs
  unfold big
  exact Nat.le_of_ble_eq_true rfl
 ·simp only [RCells] at h5 ⊢
  exact ⟨_,_,_,_,_,[],rfl,h5,rfl⟩
 ·intro i x hxi
  rw [Nat.zero_add,hg2.cell]
  simpa using hxi
section
variable {P:Program} {L:List Oper} {Q:Exit→Act→World→Prop} {md:Region.Mode} {S:World→Prop}
theorem ready2L (i j:Nat) (d e:Option Tmp) {oi oj:Oper} {fuel:Nat} {listed:Array Bool} {a:Act} {w:World} (hi:L[i]?=some oi) (hd:oi.dst=d) (hj:L[j]?=some oj) (he:oj.dst=e) (hr:Region.ready md L.toArray listed=[i,j])
  (h1:∀ K':Act→World→Prop,Shut (∀ a w,S w→(S w→wpAnyH P md L.toArray Q S fuel (listed.setIfInBounds i true) a w)→K' a w)→if Region.wanted oi (yielded L.toArray a.tmps)=true then Oper.wp P oi a w K' Q else K' (a.put d undef) w)
  (h2:∀ K':Act→World→Prop,Shut (∀ a w,S w→(S w→wpAnyH P md L.toArray Q S fuel (listed.setIfInBounds j true) a w)→K' a w)→if Region.wanted oj (yielded L.toArray a.tmps)=true then Oper.wp P oj a w K' Q else K' (a.put e undef) w) :
  wpAnyH P md L.toArray Q S (fuel+1) listed a w:=by
 subst hd he
 exact wpAnyH_ready hr (by simp) (AllReadyH.cons (by simpa using hi) h1 (AllReadyH.cons (by simpa using hj) h2 AllReadyH.nil))
theorem ready3L (i j k:Nat) (d e f:Option Tmp) {oi oj ok:Oper} {fuel:Nat} {listed:Array Bool} {a:Act} {w:World} (hi:L[i]?=some oi) (hd:oi.dst=d) (hj:L[j]?=some oj) (he:oj.dst=e) (hk:L[k]?=some ok) (hf:ok.dst=f) (hr:Region.ready md L.toArray listed=[i,j,k])
  (h1:∀ K':Act→World→Prop,Shut (∀ a w,S w→(S w→wpAnyH P md L.toArray Q S fuel (listed.setIfInBounds i true) a w)→K' a w)→if Region.wanted oi (yielded L.toArray a.tmps)=true then Oper.wp P oi a w K' Q else K' (a.put d undef) w)
  (h2:∀ K':Act→World→Prop,Shut (∀ a w,S w→(S w→wpAnyH P md L.toArray Q S fuel (listed.setIfInBounds j true) a w)→K' a w)→if Region.wanted oj (yielded L.toArray a.tmps)=true then Oper.wp P oj a w K' Q else K' (a.put e undef) w)
  (h3:∀ K':Act→World→Prop,Shut (∀ a w,S w→(S w→wpAnyH P md L.toArray Q S fuel (listed.setIfInBounds k true) a w)→K' a w)→if Region.wanted ok (yielded L.toArray a.tmps)=true then Oper.wp P ok a w K' Q else K' (a.put f undef) w) :
  wpAnyH P md L.toArray Q S (fuel+1) listed a w:=by
 subst hd he hf
 exact wpAnyH_ready hr (by simp) (AllReadyH.cons (by simpa using hi) h1 (AllReadyH.cons (by simpa using hj) h2 (AllReadyH.cons (by simpa using hk) h3 AllReadyH.nil)))
end
theorem Row0.al {u:World} {g:Nat} {t:TypeId} {xs:List Value} {cur:Array Value} (h:Row0 u g t xs cur) (o:Obj):Row0 (u.alloc o) g t xs cur:=⟨h.b.alloc o,h.c⟩
theorem zj_facts {u:World} {g:Nat} (h:Blk u g 31 zj):u.cell? ⟨g,0,none⟩=some (.int .i64 0)∧u.cell? ⟨g,1,none⟩=some (.int .i64 0)∧u.cell? ⟨g,2,none⟩=some (.string ⟨#[]⟩)∧u.cell? ⟨g,3,none⟩=some (.slice none 0 0)∧u.cell? ⟨g,4,none⟩=some (.slice none 0 0)∧u.frozen? ⟨g,0,none⟩=false∧u.frozen? ⟨g,1,none⟩=false∧u.frozen? ⟨g,2,none⟩=false∧u.frozen? ⟨g,3,none⟩=false∧u.frozen? ⟨g,4,none⟩=false:=
 ⟨(h.cell 0).trans rfl,(h.cell 1).trans rfl,(h.cell 2).trans rfl,(h.cell 3).trans rfl,(h.cell 4).trans rfl,h.frozen 0,h.frozen 1,h.frozen 2,h.frozen 3,h.frozen 4⟩
theorem five_set {w:World} {g:Nat} {v0 v1 v2 v3 v4:Value} (h:Blk w g 31 zj):Blk (((((w.setCell ⟨g,0,none⟩ v0).setCell ⟨g,1,none⟩ v1).setCell ⟨g,2,none⟩ v2).setCell ⟨g,3,none⟩ v3).setCell ⟨g,4,none⟩ v4) g 31 #[v0,v1,v2,v3,v4]:=by
 simpa using ((((h.set_ 0 v0).set_ 1 v1).set_ 2 v2).set_ 3 v3).set_ 4 v4
theorem row_ne {u:World} {g9 g2:Nat} {cs:List Value} {cur2:Array Value} (h:Blk u g9 31 zj) (r:Row0 u g2 31 ([.int .i64 0,.int .i64 0,.string ⟨#[]⟩,.slice none 0 0,.slice none 0 0]++cs) cur2) (hc:0<cs.length):g2≠g9:=fun e=>by
 subst e
 have h1:=r.b.cell 5
 rw [h.cell 5,r.c 5 cs[0] (by rw [List.getElem?_append_right (by simp)];simp [hc])] at h1
 cases h1
theorem five_far {w:World} {g g':Nat} {t:TypeId} {cs:Array Value} {v0 v1 v2 v3 v4:Value} (h:Blk w g t cs) (hg:g≠g'):Blk (((((w.setCell ⟨g',0,none⟩ v0).setCell ⟨g',1,none⟩ v1).setCell ⟨g',2,none⟩ v2).setCell ⟨g',3,none⟩ v3).setCell ⟨g',4,none⟩ v4) g t cs:=
 ((((h.far (p:=⟨g',0,none⟩) hg v0).far (p:=⟨g',1,none⟩) hg v1).far (p:=⟨g',2,none⟩) hg v2).far (p:=⟨g',3,none⟩) hg v3).far (p:=⟨g',4,none⟩) hg v4
theorem five_fr {a w:World} {g:Nat} {v0 v1 v2 v3 v4:Value} (h:Fr NoB a w) (hg:a.heap.size≤g):Fr NoB a (((((w.setCell ⟨g,0,none⟩ v0).setCell ⟨g,1,none⟩ v1).setCell ⟨g,2,none⟩ v2).setCell ⟨g,3,none⟩ v3).setCell ⟨g,4,none⟩ v4):=
 ((((h.setCell_new (p:=⟨g,0,none⟩) hg v0).setCell_new (p:=⟨g,1,none⟩) hg v1).setCell_new (p:=⟨g,2,none⟩) hg v2).setCell_new (p:=⟨g,3,none⟩) hg v3).setCell_new (p:=⟨g,4,none⟩) hg v4
theorem kback_walk {B:Nat} (k:Ky) (j:Jv) (v0 v1 v2 v3 v4:Value) (w:World) (hx:Cx B w) (hi:IntOk k.kty) (hz:szY k≤1048576) (hat:RAt (All w) w j (.agg #[v0,v1,v2,v3,v4])) (hsz:szJ j≤8388608) :
  Calls Tryz.prog 5 #[.agg (kyC k),.agg #[v0,v1,v2,v3,v4]] w fun e w'=>e=.returned (.bool true)∧Fr NoB w w':=by
 have hsm:=sm_of hi hz
 have HV:Hid (∀ u,Calls Tryz.prog 8 #[.agg (kyC k)] u fun e w'=>∃ v,e=.returned (.tuple #[v,.int .i64 (if kyOk k then 0 else 100)])∧RAt (All w') w' (if kyOk k then valK k else Jv.nul) v∧Fr NoB u w'):=Lib.hid (fun u=>by
  refine (value_any k u hsm).mono ?_
  rintro e w' ⟨v,rfl,h,f⟩
  exact ⟨v,rfl,RAt.mono (fun _ h=>h.2) _ _ h,f⟩)
 have HC:Hid (∀ u,Calls Tryz.prog 12 #[.agg (kyC k)] u fun e w'=>e=.returned (.int .i64 (if kyOk k then 0 else 100))∧Fr NoB u w'):=Lib.hid (fun u=>kcheck_any k u hsm)
 have HOf:Hid (∀ u x y,Fr NoB w u→RAt (All u) u x y→szJ x≤8388608→Calls Tryz.prog 16 #[y] u fun e w'=>e=.returned (.tuple #[.agg (kyC ((ofK x).getD kz)),.int .i64 (if (ofK x).isSome then 0 else 100)])∧Fr NoB u w'):=Lib.hid (fun u x y f h1 h2=>of_key_any x y u (hx.fr0 f) h1 h2 (JSm_of x h2))
 have HST:Hid (kyOk k=true→∀ u y,Fr NoB w u→RAt (All u) u (oneJ k) y→Calls Tryz.prog 18 #[y] u fun e w'=>SetIs (some [k]) u e w'∧Fr NoB u w'):=Lib.hid (fun hok u y f h=>by
  have hv:=val_sz k
  have:=kset_any (oneJ k) y u (hx.fr0 f) h (JSm_of _ (by simp only [oneJ,szJ,szL,szK,nKeys,List.length_nil,List.length_cons];omega)) (fun l hl x hx=>by
   rw [one_got] at hl
   cases hl
   have hx2:x∈[valK k]:=hx
   rw [List.mem_singleton] at hx2
   subst hx2
   omega)
  rwa [one_set hok] at this)
 have HFx:Hid (∀ u,Fr NoB w u→Calls Tryz.prog 15 #[] u fun e w'=>e=.returned (.bool true)∧Fr NoB u w'):=Lib.hid (fun u f=>kfixed_any u (hx.fr0 f))
 have hvz:=val_sz k
 have hmz:=more_sz k
 have bK:=(Blk.new w 27 (kyC k)).alloc (.cells #[v0,v1,v2,v3,v4] 31)
 have bV:Blk ((w.alloc (.cells (kyC k) 27)).alloc (.cells #[v0,v1,v2,v3,v4] 31)) (w.heap.size+1) 31 #[v0,v1,v2,v3,v4]:=by
  have:=Blk.new (w.alloc (.cells (kyC k) 27)) 31 #[v0,v1,v2,v3,v4]
  simpa using this
 have f0:Fr NoB w ((w.alloc (.cells (kyC k) 27)).alloc (.cells #[v0,v1,v2,v3,v4] 31)):=((Fr.refl _ _).alloc _).alloc _
 clear hsm hi hx
 go_enter Tryz.func5,Tryz.ntmps5
 go_upto_region 1 with fail
 generalize (w.alloc (.cells (kyC k) 27)).alloc (.cells #[v0,v1,v2,v3,v4] 31)=W at *
 cases hok:kyOk k with
 | false=>
  rw [hok] at HV HC
  clear hok HST hvz hmz
  go_upto_region 2 with (first|(refine ldK rfl _ rfl w.heap.size rfl bK rfl ?_)|(go_at_call 8;((with_reducible refine (HV.out _).mono ?_);rintro er w1 ⟨v,rfl,h1,f1⟩;obtain ⟨x0,x1,x2,x3,x4,rfl,o1⟩:=h1.form;have n1:=Blk.new w1 31 zj))|(refine wpList_store_row rfl 31 _ _ rfl w1.heap.size #[x0,x1,x2,x3,x4] rfl rfl 31 zj n1 size_json rfl o1 ?_))
  obtain ⟨p1,b1⟩:=put_row w1 x0 x1 x2 x3 x4
  have F1:=f0.trans (f1.trans p1)
  have bK1:=(f1.trans p1).blk bK (fun e=>e)
  have bV1:=(f1.trans p1).blk bV (fun e=>e)
  clear n1 h1 f1 p1 o1 b1 bK bV f0
  generalize (w1.alloc (.cells zj 31)).setRow w1.heap.size #[x0,x1,x2,x3,x4]=U1 at *
  go_upto_region 13 with (first|(refine ldK rfl _ rfl w.heap.size rfl bK1 rfl ?_)|(go_at_call 12;((with_reducible refine (HC.out _).mono ?_);rintro er Wt ⟨rfl,f2⟩)))
  have Ft:=F1.trans f2
  have bV:=f2.blk bV1 (fun e=>e)
  clear bV1 bK1 HV HC
  have HO:=Lib.hid (HOf.out Wt j _ Ft (hat.all Ft) hsz)
  have honez:=one_key kz
  cases hq:ofK j with
  | none=>
   rw [hq] at HO
   clear hq
   go_upto_region 14 with (first|(refine ldJ rfl _ rfl (w.heap.size+1) rfl bV rfl ?_)|(go_at_call 16;((with_reducible refine HO.out.mono ?_);rintro er w6 ⟨rfl,f6⟩;have n6:=Blk.new w6 27 zk))|(refine wpList_store_row rfl 27 _ _ rfl w6.heap.size #[.int .i64 0,.string ⟨#[]⟩,.string ⟨#[]⟩,.string ⟨#[]⟩,.string ⟨#[]⟩,.string ⟨#[]⟩,.string ⟨#[]⟩,.string ⟨#[]⟩] rfl rfl 27 _ n6 size_key rfl honez ?_))
   have F7:=(Ft.trans f6).trans (((Fr.refl NoB w6).alloc (.cells zk 27)).setRow w6.heap.size #[.int .i64 0,.string ⟨#[]⟩,.string ⟨#[]⟩,.string ⟨#[]⟩,.string ⟨#[]⟩,.string ⟨#[]⟩,.string ⟨#[]⟩,.string ⟨#[]⟩] (Or.inl (Nat.le_refl _)))
   have b7:=n6.setRow #[.int .i64 0,.string ⟨#[]⟩,.string ⟨#[]⟩,.string ⟨#[]⟩,.string ⟨#[]⟩,.string ⟨#[]⟩,.string ⟨#[]⟩,.string ⟨#[]⟩]
   clear n6 bV HO
   generalize (w6.alloc (.cells zk 27)).setRow w6.heap.size #[.int .i64 0,.string ⟨#[]⟩,.string ⟨#[]⟩,.string ⟨#[]⟩,.string ⟨#[]⟩,.string ⟨#[]⟩,.string ⟨#[]⟩,.string ⟨#[]⟩]=U7 at *
   have HE:∀ u,(Op.equalIn 10000 27 (.agg #[.int .i64 0,.string ⟨#[]⟩,.string ⟨#[]⟩,.string ⟨#[]⟩,.string ⟨#[]⟩,.string ⟨#[]⟩,.string ⟨#[]⟩,.string ⟨#[]⟩]) (.agg #[.int .i64 0,.string ⟨#[]⟩,.string ⟨#[]⟩,.string ⟨#[]⟩,.string ⟨#[]⟩,.string ⟨#[]⟩,.string ⟨#[]⟩,.string ⟨#[]⟩])).run Tryz.prog u=.ok true u:=key_same kz
   go_wp2_with (first|(refine ldK rfl _ rfl w6.heap.size rfl b7 rfl ?_)|(go_at_call 15;((with_reducible refine (HFx.out _ F7).mono ?_);rintro er w8 ⟨rfl,f8⟩)))
   go_ret
   exact ⟨rfl,F7.trans f8⟩
  | some q=>
   rw [hq] at HO
   have hqk:=of_ok hq
   have hqs:=ok_small hqk
   have HVq:Hid (∀ u,Calls Tryz.prog 8 #[.agg (kyC q)] u fun e w'=>∃ v,e=.returned (.tuple #[v,.int .i64 0])∧RAt (All w') w' (valK q) v∧Fr NoB u w'):=Lib.hid (fun u=>by
    have:=value_any q u (sm_of (ok_int hqk) (by omega))
    rw [hqk] at this
    refine this.mono ?_
    rintro e w' ⟨v,rfl,h,f⟩
    exact ⟨v,rfl,RAt.mono (fun _ h=>h.2) _ _ h,f⟩)
   have HOq:Hid (∀ u y,Fr NoB w u→RAt (All u) u (valK q) y→Calls Tryz.prog 16 #[y] u fun e w'=>e=.returned (.tuple #[.agg (kyC q),.int .i64 0])∧Fr NoB u w'):=Lib.hid (fun u y f h=>by
    have:=HOf.out u (valK q) y f h (by have:=val_sz q;omega)
    rw [of_val hqk] at this
    exact this)
   have HCq:Hid (∀ u,Calls Tryz.prog 12 #[.agg (kyC q)] u fun e w'=>e=.returned (.int .i64 0)∧Fr NoB u w'):=Lib.hid (fun u=>by
    have:=kcheck_any q u (sm_of (ok_int hqk) (by omega))
    rw [hqk] at this
    exact this)
   have honeq:=one_key q
   clear hq hqk hqs HOf
   go_upto_region 14 with (first|(refine ldJ rfl _ rfl (w.heap.size+1) rfl bV rfl ?_)|(go_at_call 16;((with_reducible refine HO.out.mono ?_);rintro er w6 ⟨rfl,f6⟩;have n6:=Blk.new w6 27 zk))|(refine wpList_store_row rfl 27 _ _ rfl w6.heap.size (kyC q) rfl rfl 27 _ n6 size_key rfl honeq ?_))
   obtain ⟨p7,b7⟩:=put_key w6 q
   have F7:=(Ft.trans f6).trans p7
   clear n6 bV HO p7 f6
   generalize (w6.alloc (.cells zk 27)).setRow w6.heap.size (kyC q)=U7 at *
   go_upto_region 17 with (first|(refine ldK rfl _ rfl w6.heap.size rfl b7 rfl ?_)|(go_at_call 8;((with_reducible refine (HVq.out _).mono ?_);rintro er w8 ⟨v8,rfl,h8,f8⟩;obtain ⟨y0,y1,y2,y3,y4,rfl,o8⟩:=h8.form;have n8:=Blk.new w8 31 zj))|(refine wpList_store_row rfl 31 _ _ rfl w8.heap.size #[y0,y1,y2,y3,y4] rfl rfl 31 zj n8 size_json rfl o8 ?_))
   obtain ⟨p8,b8⟩:=put_row w8 y0 y1 y2 y3 y4
   have F8:=F7.trans (f8.trans p8)
   have R8:=h8.all p8
   have b78:=(f8.trans p8).blk b7 (fun e=>e)
   clear n8 h8 f8 p8 b7 o8 HVq
   generalize (w8.alloc (.cells zj 31)).setRow w8.heap.size #[y0,y1,y2,y3,y4]=U8 at *
   go_upto_region 18 with (first|(refine ldJ rfl _ rfl w8.heap.size rfl b8 rfl ?_)|(go_at_call 16;((with_reducible refine (HOq.out _ _ F8 R8).mono ?_);rintro er w9 ⟨rfl,f9⟩;have n9:=Blk.new w9 27 zk))|(refine wpList_store_row rfl 27 _ _ rfl w9.heap.size (kyC q) rfl rfl 27 _ n9 size_key rfl honeq ?_))
   obtain ⟨p9,b9⟩:=put_key w9 q
   have F9:=F8.trans (f9.trans p9)
   have b79:=(f9.trans p9).blk b78 (fun e=>e)
   clear n9 f9 p9 b78 b8 R8 HOq
   generalize (w9.alloc (.cells zk 27)).setRow w9.heap.size (kyC q)=U9 at *
   have HE:∀ u,(Op.equalIn 10000 27 (.agg #[.int .i64 q.kty,.string ⟨q.kid.toArray⟩,.string ⟨q.alg.toArray⟩,.string ⟨q.n.toArray⟩,.string ⟨q.e.toArray⟩,.string ⟨q.x.toArray⟩,.string ⟨q.y.toArray⟩,.string ⟨q.sec.toArray⟩]) (.agg #[.int .i64 q.kty,.string ⟨q.kid.toArray⟩,.string ⟨q.alg.toArray⟩,.string ⟨q.n.toArray⟩,.string ⟨q.e.toArray⟩,.string ⟨q.x.toArray⟩,.string ⟨q.y.toArray⟩,.string ⟨q.sec.toArray⟩])).run Tryz.prog u=.ok true u:=key_same q
   go_wp2_with (first|(refine ldK rfl _ rfl w6.heap.size rfl b79 rfl ?_)|(go_at_call 12;((with_reducible refine (HCq.out _).mono ?_);rintro er wa ⟨rfl,fa⟩;obtain ⟨a0,a1,a2,a3,a4,a5,a6,a7⟩:=key_cells (fa.blk b79 (fun e=>e));obtain ⟨c0,c1,c2,c3,c4,c5,c6,c7⟩:=key_cells (fa.blk b9 (fun e=>e))))|(go_at_call 15;((with_reducible refine (HFx.out _ (F9.trans fa)).mono ?_);rintro er wb ⟨rfl,fb⟩)))
   go_ret
   exact ⟨rfl,F9.trans (fa.trans fb)⟩
 | true=>
  rw [hok] at HV HC
  have HV':Hid (∀ u,Calls Tryz.prog 8 #[.agg (kyC k)] u fun e w'=>∃ v,e=.returned (.tuple #[v,.int .i64 0])∧RAt (All w') w' (valK k) v∧Fr NoB u w'):=Lib.hid HV.out
  have HO1:Hid (∀ u y,Fr NoB w u→RAt (All u) u (valK k) y→Calls Tryz.prog 16 #[y] u fun e w'=>e=.returned (.tuple #[.agg (kyC k),.int .i64 0])∧Fr NoB u w'):=Lib.hid (fun u y f h=>by
   have:=HOf.out u (valK k) y f h (by omega)
   rw [of_val hok] at this
   exact this)
  have HO2:Hid (∀ u y,Fr NoB w u→RAt (All u) u (moreJ nUse (sortedK k)) y→Calls Tryz.prog 16 #[y] u fun e w'=>e=.returned (.tuple #[.agg (kyC k),.int .i64 0])∧Fr NoB u w'):=Lib.hid (fun u y f h=>by
   have:=HOf.out u (moreJ nUse (sortedK k)) y f h (by omega)
   rw [of_more hok] at this
   exact this)
  have HST1:=Lib.hid (HST.out hok)
  have hTl:(sortedK k).length≤6:=by have:=(sorted_perm k).length_eq;have:=Lm_len k 2 (Nat.le_refl _);omega
  have hTp:0<(sortedK k).length:=by have:=(sorted_perm k).length_eq;have:=Lm_pos k 2;omega
  have HTV:Hid (valK k=objJ (sortedK k)):=Lib.hid rfl
  have honek:=one_key k
  clear hok HST hvz hmz HV
  generalize sortedK k=T at *
  go_upto_region 2 with (first|(refine ldK rfl _ rfl w.heap.size rfl bK rfl ?_)|(go_at_call 8;((with_reducible refine (HV'.out _).mono ?_);rintro er w1 ⟨v,rfl,h1,f1⟩;obtain ⟨x0,x1,x2,x3,x4,rfl,o1⟩:=h1.form;have n1:=Blk.new w1 31 zj))|(refine wpList_store_row rfl 31 _ _ rfl w1.heap.size #[x0,x1,x2,x3,x4] rfl rfl 31 zj n1 size_json rfl o1 ?_))
  obtain ⟨p1,b1⟩:=put_row w1 x0 x1 x2 x3 x4
  have F1:=f0.trans (f1.trans p1)
  have bK1:=(f1.trans p1).blk bK (fun e=>e)
  have bV1:=(f1.trans p1).blk bV (fun e=>e)
  have R1:=h1.all p1
  clear n1 h1 f1 p1 o1 bK bV f0 HV'
  generalize (w1.alloc (.cells zj 31)).setRow w1.heap.size #[x0,x1,x2,x3,x4]=U1 at *
  go_upto_region 5 with (first|(refine ldK rfl _ rfl w.heap.size rfl bK1 rfl ?_)|(go_at_call 12;((with_reducible refine (HC.out _).mono ?_);rintro er w2 ⟨rfl,f2⟩)))
  have F2:=F1.trans f2
  have bK2:=f2.blk bK1 (fun e=>e)
  have bV2:=f2.blk bV1 (fun e=>e)
  have b2:=f2.blk b1 (fun e=>e)
  have R2:=R1.all f2
  clear bV1 bK1 b1 R1 HC F1 f2
  go_upto_region 6 with (first|(refine ldJ rfl _ rfl w1.heap.size rfl b2 rfl ?_)|(go_at_call 16;((with_reducible refine (HO1.out _ _ F2 R2).mono ?_);rintro er w3 ⟨rfl,f3⟩;have n3:=Blk.new w3 27 zk))|(refine wpList_store_row rfl 27 _ _ rfl w3.heap.size (kyC k) rfl rfl 27 _ n3 size_key rfl honek ?_))
  obtain ⟨p3,b3⟩:=put_key w3 k
  have F3:=F2.trans (f3.trans p3)
  have bK3:=(f3.trans p3).blk bK2 (fun e=>e)
  have bV3:=(f3.trans p3).blk bV2 (fun e=>e)
  have b23:=(f3.trans p3).blk b2 (fun e=>e)
  have R3:=R2.all (f3.trans p3)
  clear n3 f3 p3 bK2 bV2 b2 R2 F2 HO1
  generalize (w3.alloc (.cells zk 27)).setRow w3.heap.size (kyC k)=U3 at *
  rw [HTV.out] at R3
  have R3b:=R3
  rw [objJ] at R3b
  simp only [RAt] at R3b
  obtain ⟨lv,kv,hagg,-,-,-,hks,hll,cs,hcs,hlm⟩:=R3b
  simp only [jV,Value.agg.injEq,Array.mk.injEq,List.cons.injEq,and_true] at hagg
  obtain ⟨rfl,rfl,rfl,rfl,rfl⟩:=hagg
  obtain ⟨gl,ol,cl,rfl,hgl,hcl⟩:∃ g o c,x3=.slice (some ⟨g,o,none⟩) T.length c∧g<U3.heap.size∧∀ (i:Nat) u,cs[i]?=some u→U3.cell? ⟨g,o+i,none⟩=some u:=by
   rcases hlm with ⟨h0,_⟩|⟨g,o,c,rfl,hg,hc⟩
   ·rw [List.length_map] at h0;omega
   ·exact ⟨g,o,c,by rw [List.length_map],hg,hc⟩
  obtain ⟨gk,ok,ck,rfl,hgk,hck⟩:∃ g o c,x4=.slice (some ⟨g,o,none⟩) T.length c∧g<U3.heap.size∧∀ (i:Nat) u,((T.map (fun p=>p.1)).map sV)[i]?=some u→U3.cell? ⟨g,o+i,none⟩=some u:=by
   rcases hks.1 with ⟨h0,_⟩|⟨g,o,c,rfl,hg,hc⟩
   ·rw [List.length_map] at h0;omega
   ·exact ⟨g,o,c,by rw [List.length_map],hg,hc⟩
  obtain ⟨n1,hn1⟩:∃ n1,n1=1+T.length:=⟨_,rfl⟩
  obtain ⟨n0,hn0⟩:∃ n0,n0=T.length:=⟨_,rfl⟩
  rw [← hn0] at b23 R3 ⊢
  have HKK:Hid (n0=(T.map (fun p=>p.1)).length∧n1=1+n0∧0<n0∧n0≤1000∧gk<U3.heap.size∧∀ (i:Nat) x,((T.map (fun p=>p.1)).map sV)[i]?=some x→U3.cell? ⟨gk,ok+i,none⟩=some x):=Lib.hid ⟨by rw [List.length_map,hn0],by omega,by omega,by omega,hgk,hck⟩
  have hcsl:=RCells.len _ _ hcs
  rw [List.length_map] at hcsl
  have hcone:=RCells.one _ _ hcs
  have HKL:Hid (cs.length=n0*5∧n1=1+n0∧0<n0∧n0≤1000∧gl<U3.heap.size∧(∀ v∈cs,v.oneCell'=true)∧∀ (i:Nat) x,cs[i]?=some x→U3.cell? ⟨gl,ol+i,none⟩=some x):=Lib.hid ⟨by rw [hcsl,hn0],by omega,by omega,by omega,hgl,hcone,hcl⟩
  have HMA:Hid (∀ (wx:World) g1 g2 c1 c2 cur1 cur2,Fr NoB U3 wx→Row0 wx g1 9 ((nUse::T.map (fun p=>p.1)).map sV) cur1→Row0 wx g2 31 ([.int .i64 0,.int .i64 0,.string ⟨#[]⟩,.slice none 0 0,.slice none 0 0]++cs) cur2→RAt (All wx) wx (moreJ nUse T) (.agg #[.int .i64 6,.int .i64 0,.string ⟨#[]⟩,.slice (some ⟨g2,0,none⟩) n1 c2,.slice (some ⟨g1,0,none⟩) n1 c1])):=Lib.hid (fun wx g1 g2 c1 c2 cur1 cur2 f r1 r2=>more_at hn1 (by omega) hcs hks.2.2 f r1 r2)
  have HSS:Hid (∀ u,Fr NoB U3 u→u.cell? ⟨w1.heap.size,4,none⟩=some (.slice (some ⟨gk,ok,none⟩) n0 ck)∧u.cell? ⟨w1.heap.size,3,none⟩=some (.slice (some ⟨gl,ol,none⟩) n0 cl)):=Lib.hid (fun u f=>by
   have b:=f.blk b23 (fun e=>e)
   exact ⟨(b.cell 4).trans rfl,(b.cell 3).trans rfl⟩)
  obtain ⟨s4,s3⟩:=HSS.out U3 (Fr.refl _ _)
  have hcp:0<cs.length:=by omega
  clear hcs hks hlm hcone hcsl hck hcl hgl hgk hll hn1 hn0 hTl hTp
  generalize hKS:T.map (fun p=>p.1)=KS at *
  try simp only [Act.put]
  go_cut [9] (fun v9 wx=>∃ g9 g1 g2 c1 c2 cur1 cur2,v9=.pointer (some ⟨g9,0,none⟩)∧Blk wx g9 31 #[.int .i64 6,.int .i64 0,.string ⟨#[]⟩,.slice (some ⟨g2,0,none⟩) n1 c2,.slice (some ⟨g1,0,none⟩) n1 c1]∧Row0 wx g1 9 ((nUse::KS).map sV) cur1∧Row0 wx g2 31 ([.int .i64 0,.int .i64 0,.string ⟨#[]⟩,.slice none 0 0,.slice none 0 0]++cs) cur2∧Fr NoB U3 wx)
  case first=>
   clear HOf HO2 HST1 HFx bK3 bV3 b23 R3 b3 HMA hat hsz
   refine wp_region_held_drew (S:=(fun u=>u.cell? ⟨w1.heap.size,4,none⟩=some (.slice (some ⟨gk,ok,none⟩) n0 ck)∧u.cell? ⟨w1.heap.size,3,none⟩=some (.slice (some ⟨gl,ol,none⟩) n0 cl))) (by kernel_rfl) (HSS.out _ (Fr.refl _ _).drew) (fun hHeld => ?_)
   obtain ⟨u0,hu0⟩:∃ x,x=U3.drew:=⟨_,rfl⟩
   have t0:Fr NoB U3 u0:=by rw [hu0];exact (Fr.refl NoB U3).drew
   rw [← hu0] at hHeld ⊢
   clear hu0 s4 s3
   refine takeL 1 (some 39) ?_ rfl rfl (by kernel_rfl) (by kernel_rfl) (by kernel_rfl) (fun _ _ _ h=>h) rfl ?_ (by assumption) ?_
   rotate_left
   ·(intro w hSw;(try dsimp only at hSw);go_simp;(try with_reducible rfl))
   simp only [Act.put,List.setIfInBounds_toArray,List.set_cons_zero,List.set_cons_succ]
   refine takeL 2 (some 40) ?_ rfl rfl (by kernel_rfl) (by kernel_rfl) (by kernel_rfl) (fun _ _ _ h=>h) rfl ?_ (by assumption) ?_
   rotate_left
   ·(intro w hSw;(try dsimp only at hSw);go_simp;(try with_reducible rfl))
   simp only [Act.put,List.setIfInBounds_toArray,List.set_cons_zero,List.set_cons_succ]
   refine takeL 4 (some 42) ?_ rfl rfl (by kernel_rfl) (by kernel_rfl) (by kernel_rfl) (fun _ _ _ h=>h) rfl ?_ (by assumption) ?_
   rotate_left
   ·(intro w hSw;(try dsimp only at hSw);go_simp;(try with_reducible rfl))
   simp only [Act.put,List.setIfInBounds_toArray,List.set_cons_zero,List.set_cons_succ]
   refine takeL 6 (some 44) ?_ rfl rfl (by kernel_rfl) (by kernel_rfl) (by kernel_rfl) (fun _ _ _ h=>h) rfl ?_ (by assumption) ?_
   rotate_left
   ·(intro w hSw;(try dsimp only at hSw);go_simp;(try with_reducible rfl))
   simp only [Act.put,List.setIfInBounds_toArray,List.set_cons_zero,List.set_cons_succ]
   refine takeL 7 (some 45) ?_ rfl rfl (by kernel_rfl) (by kernel_rfl) (by kernel_rfl) (fun _ _ _ h=>h) rfl ?_ (by assumption) ?_
   rotate_left
   ·(intro w hSw;(try dsimp only at hSw);go_simp;(try with_reducible rfl))
   simp only [Act.put,List.setIfInBounds_toArray,List.set_cons_zero,List.set_cons_succ]
   refine ready3L 0 5 10 (some 38) (some 43) (some 9) rfl rfl rfl rfl rfl rfl (by kernel_rfl) (fun K hK => ?_) (fun K hK => ?_) (fun K hK => ?_)
   ·skip
    have lA:U3.heap.size≤u0.heap.size:=t0.size
    have t1:Fr NoB U3 (u0.alloc (.cells #[.string ⟨#[117,115,101]⟩] 9)):=t0.alloc _
    have hA:Blk (u0.alloc (.cells #[.string ⟨#[117,115,101]⟩] 9)) u0.heap.size 9 #[.string ⟨#[117,115,101]⟩]:=Blk.new u0 9 #[.string ⟨#[117,115,101]⟩]
    go_simp
    (try go_wp2_with fail)
    refine hK.out _ _ (HSS.out _ t1) (fun hHeld => ?_)
    clear hK K
    generalize u0.alloc (.cells #[.string ⟨#[117,115,101]⟩] 9)=u1 at *
    generalize u0.heap.size=gA at *
    refine ready3L 3 5 10 (some 41) (some 43) (some 9) rfl rfl rfl rfl rfl rfl (by kernel_rfl) (fun K hK => ?_) (fun K hK => ?_) (fun K hK => ?_)
    ·skip
     refine step_use (by rfl) _ _ (by rfl) HKK (by rfl) (by rfl) t1 hA lA ?_
     intro gB cB u2 AB
     obtain ⟨curB,hB⟩:=AB.row
     have t2:=AB.fr
     refine hK.out _ _ (HSS.out _ t2) (fun hHeld => ?_)
     clear hK K
     clear AB hA
     simp only [Act.put,List.setIfInBounds_toArray,List.set_cons_zero,List.set_cons_succ]
     refine ready2L 5 10 (some 43) (some 9) rfl rfl rfl rfl (by kernel_rfl) (fun K hK => ?_) (fun K hK => ?_)
     ·skip
      have lC:U3.heap.size≤u2.heap.size:=t2.size
      have t3:Fr NoB U3 (u2.alloc (.cells #[.int .i64 0,.int .i64 0,.string ⟨#[]⟩,.slice none 0 0,.slice none 0 0] 31)):=t2.alloc _
      have hB:=hB.al (.cells #[.int .i64 0,.int .i64 0,.string ⟨#[]⟩,.slice none 0 0,.slice none 0 0] 31)
      have hC:Blk (u2.alloc (.cells #[.int .i64 0,.int .i64 0,.string ⟨#[]⟩,.slice none 0 0,.slice none 0 0] 31)) u2.heap.size 31 zj:=Blk.new u2 31 #[.int .i64 0,.int .i64 0,.string ⟨#[]⟩,.slice none 0 0,.slice none 0 0]
      go_simp
      (try go_wp2_with fail)
      refine hK.out _ _ (HSS.out _ t3) (fun hHeld => ?_)
      clear hK K
      generalize u2.alloc (.cells #[.int .i64 0,.int .i64 0,.string ⟨#[]⟩,.slice none 0 0,.slice none 0 0] 31)=u3 at *
      generalize u2.heap.size=gC at *
      refine ready2L 8 10 (some 46) (some 9) rfl rfl rfl rfl (by kernel_rfl) (fun K hK => ?_) (fun K hK => ?_)
      ·skip
       refine step_nul (by rfl) _ _ (by rfl) HKL (by rfl) (by rfl) t3 hC lC ?_
       intro gD cD u4 AD
       obtain ⟨curD,hD⟩:=AD.row
       have t4:=AD.fr
       have hB:=AD.far _ _ _ hB
       refine hK.out _ _ (HSS.out _ t4) (fun hHeld => ?_)
       clear hK K
       clear AD hC
       simp only [Act.put,List.setIfInBounds_toArray,List.set_cons_zero,List.set_cons_succ]
       refine takeL 9 (some 47) ?_ rfl rfl (by kernel_rfl) (by kernel_rfl) (by kernel_rfl) (fun _ _ _ h=>h) rfl ?_ (by assumption) ?_
       rotate_left
       ·(intro w hSw;(try dsimp only at hSw);go_simp;(try with_reducible rfl))
       simp only [Act.put,List.setIfInBounds_toArray,List.set_cons_zero,List.set_cons_succ]
       refine readyL 10 (some 9) rfl rfl (by kernel_rfl) (fun K hK => ?_)
       have lE:U3.heap.size≤u4.heap.size:=t4.size
       have t5:Fr NoB U3 (u4.alloc (.cells #[.int .i64 0,.int .i64 0,.string ⟨#[]⟩,.slice none 0 0,.slice none 0 0] 31)):=t4.alloc _
       have hB:=hB.al (.cells #[.int .i64 0,.int .i64 0,.string ⟨#[]⟩,.slice none 0 0,.slice none 0 0] 31)
       have hD:=hD.al (.cells #[.int .i64 0,.int .i64 0,.string ⟨#[]⟩,.slice none 0 0,.slice none 0 0] 31)
       have hE:Blk (u4.alloc (.cells #[.int .i64 0,.int .i64 0,.string ⟨#[]⟩,.slice none 0 0,.slice none 0 0] 31)) u4.heap.size 31 zj:=Blk.new u4 31 #[.int .i64 0,.int .i64 0,.string ⟨#[]⟩,.slice none 0 0,.slice none 0 0]
       go_simp
       (try go_wp2_with fail)
       refine hK.out _ _ (HSS.out _ t5) (fun hHeld => ?_)
       clear hK K
       generalize u4.alloc (.cells #[.int .i64 0,.int .i64 0,.string ⟨#[]⟩,.slice none 0 0,.slice none 0 0] 31)=u5 at *
       generalize u4.heap.size=gE at *
       refine readyL 11 none rfl rfl (by kernel_rfl) (fun K hK => ?_)
       have ff:=zj_facts hE
       obtain ⟨e0,e1,e2,e3,e4,e5,e6,e7,e8,e9⟩:=ff
       go_simp
       (try go_wp2_with fail)
       refine hK.out _ _ (HSS.out _ (five_fr t5 lE)) (fun hHeld => ?_)
       clear hK K e0 e1 e2 e3 e4 e5 e6 e7 e8 e9
       refine wpAnyH_done (by kernel_rfl) ?_ _
       (try go_wp2_with fail)
       go_meet
       exact ⟨_,_,_,_,_,curB,curD,rfl,five_set hE,⟨five_far hB.b (blk_ne2 hB.b hE ne_str_json),hB.c⟩,⟨five_far hD.b (row_ne hE hD hcp),hD.c⟩,five_fr t5 lE⟩
      ·skip
       have lE:U3.heap.size≤u3.heap.size:=t3.size
       have t4:Fr NoB U3 (u3.alloc (.cells #[.int .i64 0,.int .i64 0,.string ⟨#[]⟩,.slice none 0 0,.slice none 0 0] 31)):=t3.alloc _
       have hB:=hB.al (.cells #[.int .i64 0,.int .i64 0,.string ⟨#[]⟩,.slice none 0 0,.slice none 0 0] 31)
       have neEC:u3.heap.size≠gC:=fun e=>by have:=hC.lt;omega
       have hC:=hC.alloc (.cells #[.int .i64 0,.int .i64 0,.string ⟨#[]⟩,.slice none 0 0,.slice none 0 0] 31)
       have hE:Blk (u3.alloc (.cells #[.int .i64 0,.int .i64 0,.string ⟨#[]⟩,.slice none 0 0,.slice none 0 0] 31)) u3.heap.size 31 zj:=Blk.new u3 31 #[.int .i64 0,.int .i64 0,.string ⟨#[]⟩,.slice none 0 0,.slice none 0 0]
       go_simp
       (try go_wp2_with fail)
       refine hK.out _ _ (HSS.out _ t4) (fun hHeld => ?_)
       clear hK K
       generalize u3.alloc (.cells #[.int .i64 0,.int .i64 0,.string ⟨#[]⟩,.slice none 0 0,.slice none 0 0] 31)=u4 at *
       generalize u3.heap.size=gE at *
       refine readyL 8 (some 46) rfl rfl (by kernel_rfl) (fun K hK => ?_)
       refine step_nul (by rfl) _ _ (by rfl) HKL (by rfl) (by rfl) t4 hC lC ?_
       intro gD cD u5 AD
       obtain ⟨curD,hD⟩:=AD.row
       have t5:=AD.fr
       have hB:=AD.far _ _ _ hB
       have hE:=AD.farJ _ _ (by first|exact neEC|exact neCE.symm) hE
       refine hK.out _ _ (HSS.out _ t5) (fun hHeld => ?_)
       clear hK K
       clear AD hC
       simp only [Act.put,List.setIfInBounds_toArray,List.set_cons_zero,List.set_cons_succ]
       refine takeL 9 (some 47) ?_ rfl rfl (by kernel_rfl) (by kernel_rfl) (by kernel_rfl) (fun _ _ _ h=>h) rfl ?_ (by assumption) ?_
       rotate_left
       ·(intro w hSw;(try dsimp only at hSw);go_simp;(try with_reducible rfl))
       simp only [Act.put,List.setIfInBounds_toArray,List.set_cons_zero,List.set_cons_succ]
       refine readyL 11 none rfl rfl (by kernel_rfl) (fun K hK => ?_)
       have ff:=zj_facts hE
       obtain ⟨e0,e1,e2,e3,e4,e5,e6,e7,e8,e9⟩:=ff
       go_simp
       (try go_wp2_with fail)
       refine hK.out _ _ (HSS.out _ (five_fr t5 lE)) (fun hHeld => ?_)
       clear hK K e0 e1 e2 e3 e4 e5 e6 e7 e8 e9
       refine wpAnyH_done (by kernel_rfl) ?_ _
       (try go_wp2_with fail)
       go_meet
       exact ⟨_,_,_,_,_,curB,curD,rfl,five_set hE,⟨five_far hB.b (blk_ne2 hB.b hE ne_str_json),hB.c⟩,⟨five_far hD.b (row_ne hE hD hcp),hD.c⟩,five_fr t5 lE⟩
     ·skip
      have lE:U3.heap.size≤u2.heap.size:=t2.size
      have t3:Fr NoB U3 (u2.alloc (.cells #[.int .i64 0,.int .i64 0,.string ⟨#[]⟩,.slice none 0 0,.slice none 0 0] 31)):=t2.alloc _
      have hB:=hB.al (.cells #[.int .i64 0,.int .i64 0,.string ⟨#[]⟩,.slice none 0 0,.slice none 0 0] 31)
      have hE:Blk (u2.alloc (.cells #[.int .i64 0,.int .i64 0,.string ⟨#[]⟩,.slice none 0 0,.slice none 0 0] 31)) u2.heap.size 31 zj:=Blk.new u2 31 #[.int .i64 0,.int .i64 0,.string ⟨#[]⟩,.slice none 0 0,.slice none 0 0]
      go_simp
      (try go_wp2_with fail)
      refine hK.out _ _ (HSS.out _ t3) (fun hHeld => ?_)
      clear hK K
      generalize u2.alloc (.cells #[.int .i64 0,.int .i64 0,.string ⟨#[]⟩,.slice none 0 0,.slice none 0 0] 31)=u3 at *
      generalize u2.heap.size=gE at *
      refine readyL 5 (some 43) rfl rfl (by kernel_rfl) (fun K hK => ?_)
      have lC:U3.heap.size≤u3.heap.size:=t3.size
      have t4:Fr NoB U3 (u3.alloc (.cells #[.int .i64 0,.int .i64 0,.string ⟨#[]⟩,.slice none 0 0,.slice none 0 0] 31)):=t3.alloc _
      have hB:=hB.al (.cells #[.int .i64 0,.int .i64 0,.string ⟨#[]⟩,.slice none 0 0,.slice none 0 0] 31)
      have neCE:u3.heap.size≠gE:=fun e=>by have:=hE.lt;omega
      have hE:=hE.alloc (.cells #[.int .i64 0,.int .i64 0,.string ⟨#[]⟩,.slice none 0 0,.slice none 0 0] 31)
      have hC:Blk (u3.alloc (.cells #[.int .i64 0,.int .i64 0,.string ⟨#[]⟩,.slice none 0 0,.slice none 0 0] 31)) u3.heap.size 31 zj:=Blk.new u3 31 #[.int .i64 0,.int .i64 0,.string ⟨#[]⟩,.slice none 0 0,.slice none 0 0]
      go_simp
      (try go_wp2_with fail)
      refine hK.out _ _ (HSS.out _ t4) (fun hHeld => ?_)
      clear hK K
      generalize u3.alloc (.cells #[.int .i64 0,.int .i64 0,.string ⟨#[]⟩,.slice none 0 0,.slice none 0 0] 31)=u4 at *
      generalize u3.heap.size=gC at *
      refine readyL 8 (some 46) rfl rfl (by kernel_rfl) (fun K hK => ?_)
      refine step_nul (by rfl) _ _ (by rfl) HKL (by rfl) (by rfl) t4 hC lC ?_
      intro gD cD u5 AD
      obtain ⟨curD,hD⟩:=AD.row
      have t5:=AD.fr
      have hB:=AD.far _ _ _ hB
      have hE:=AD.farJ _ _ (by first|exact neEC|exact neCE.symm) hE
      refine hK.out _ _ (HSS.out _ t5) (fun hHeld => ?_)
      clear hK K
      clear AD hC
      simp only [Act.put,List.setIfInBounds_toArray,List.set_cons_zero,List.set_cons_succ]
      refine takeL 9 (some 47) ?_ rfl rfl (by kernel_rfl) (by kernel_rfl) (by kernel_rfl) (fun _ _ _ h=>h) rfl ?_ (by assumption) ?_
      rotate_left
      ·(intro w hSw;(try dsimp only at hSw);go_simp;(try with_reducible rfl))
      simp only [Act.put,List.setIfInBounds_toArray,List.set_cons_zero,List.set_cons_succ]
      refine readyL 11 none rfl rfl (by kernel_rfl) (fun K hK => ?_)
      have ff:=zj_facts hE
      obtain ⟨e0,e1,e2,e3,e4,e5,e6,e7,e8,e9⟩:=ff
      go_simp
      (try go_wp2_with fail)
      refine hK.out _ _ (HSS.out _ (five_fr t5 lE)) (fun hHeld => ?_)
      clear hK K e0 e1 e2 e3 e4 e5 e6 e7 e8 e9
      refine wpAnyH_done (by kernel_rfl) ?_ _
      (try go_wp2_with fail)
      go_meet
      exact ⟨_,_,_,_,_,curB,curD,rfl,five_set hE,⟨five_far hB.b (blk_ne2 hB.b hE ne_str_json),hB.c⟩,⟨five_far hD.b (row_ne hE hD hcp),hD.c⟩,five_fr t5 lE⟩
    ·skip
     have lC:U3.heap.size≤u1.heap.size:=t1.size
     have t2:Fr NoB U3 (u1.alloc (.cells #[.int .i64 0,.int .i64 0,.string ⟨#[]⟩,.slice none 0 0,.slice none 0 0] 31)):=t1.alloc _
     have neCA:u1.heap.size≠gA:=fun e=>by have:=hA.lt;omega
     have hA:=hA.alloc (.cells #[.int .i64 0,.int .i64 0,.string ⟨#[]⟩,.slice none 0 0,.slice none 0 0] 31)
     have hC:Blk (u1.alloc (.cells #[.int .i64 0,.int .i64 0,.string ⟨#[]⟩,.slice none 0 0,.slice none 0 0] 31)) u1.heap.size 31 zj:=Blk.new u1 31 #[.int .i64 0,.int .i64 0,.string ⟨#[]⟩,.slice none 0 0,.slice none 0 0]
     go_simp
     (try go_wp2_with fail)
     refine hK.out _ _ (HSS.out _ t2) (fun hHeld => ?_)
     clear hK K
     generalize u1.alloc (.cells #[.int .i64 0,.int .i64 0,.string ⟨#[]⟩,.slice none 0 0,.slice none 0 0] 31)=u2 at *
     generalize u1.heap.size=gC at *
     refine ready2L 3 10 (some 41) (some 9) rfl rfl rfl rfl (by kernel_rfl) (fun K hK => ?_) (fun K hK => ?_)
     ·skip
      refine step_use (by rfl) _ _ (by rfl) HKK (by rfl) (by rfl) t2 hA lA ?_
      intro gB cB u3 AB
      obtain ⟨curB,hB⟩:=AB.row
      have t3:=AB.fr
      have hC:=AB.far _ _ hC
      refine hK.out _ _ (HSS.out _ t3) (fun hHeld => ?_)
      clear hK K
      clear AB hA
      simp only [Act.put,List.setIfInBounds_toArray,List.set_cons_zero,List.set_cons_succ]
      refine ready2L 8 10 (some 46) (some 9) rfl rfl rfl rfl (by kernel_rfl) (fun K hK => ?_) (fun K hK => ?_)
      ·skip
       refine step_nul (by rfl) _ _ (by rfl) HKL (by rfl) (by rfl) t3 hC lC ?_
       intro gD cD u4 AD
       obtain ⟨curD,hD⟩:=AD.row
       have t4:=AD.fr
       have hB:=AD.far _ _ _ hB
       refine hK.out _ _ (HSS.out _ t4) (fun hHeld => ?_)
       clear hK K
       clear AD hC
       simp only [Act.put,List.setIfInBounds_toArray,List.set_cons_zero,List.set_cons_succ]
       refine takeL 9 (some 47) ?_ rfl rfl (by kernel_rfl) (by kernel_rfl) (by kernel_rfl) (fun _ _ _ h=>h) rfl ?_ (by assumption) ?_
       rotate_left
       ·(intro w hSw;(try dsimp only at hSw);go_simp;(try with_reducible rfl))
       simp only [Act.put,List.setIfInBounds_toArray,List.set_cons_zero,List.set_cons_succ]
       refine readyL 10 (some 9) rfl rfl (by kernel_rfl) (fun K hK => ?_)
       have lE:U3.heap.size≤u4.heap.size:=t4.size
       have t5:Fr NoB U3 (u4.alloc (.cells #[.int .i64 0,.int .i64 0,.string ⟨#[]⟩,.slice none 0 0,.slice none 0 0] 31)):=t4.alloc _
       have hB:=hB.al (.cells #[.int .i64 0,.int .i64 0,.string ⟨#[]⟩,.slice none 0 0,.slice none 0 0] 31)
       have hD:=hD.al (.cells #[.int .i64 0,.int .i64 0,.string ⟨#[]⟩,.slice none 0 0,.slice none 0 0] 31)
       have hE:Blk (u4.alloc (.cells #[.int .i64 0,.int .i64 0,.string ⟨#[]⟩,.slice none 0 0,.slice none 0 0] 31)) u4.heap.size 31 zj:=Blk.new u4 31 #[.int .i64 0,.int .i64 0,.string ⟨#[]⟩,.slice none 0 0,.slice none 0 0]
       go_simp
       (try go_wp2_with fail)
       refine hK.out _ _ (HSS.out _ t5) (fun hHeld => ?_)
       clear hK K
       generalize u4.alloc (.cells #[.int .i64 0,.int .i64 0,.string ⟨#[]⟩,.slice none 0 0,.slice none 0 0] 31)=u5 at *
       generalize u4.heap.size=gE at *
       refine readyL 11 none rfl rfl (by kernel_rfl) (fun K hK => ?_)
       have ff:=zj_facts hE
       obtain ⟨e0,e1,e2,e3,e4,e5,e6,e7,e8,e9⟩:=ff
       go_simp
       (try go_wp2_with fail)
       refine hK.out _ _ (HSS.out _ (five_fr t5 lE)) (fun hHeld => ?_)
       clear hK K e0 e1 e2 e3 e4 e5 e6 e7 e8 e9
       refine wpAnyH_done (by kernel_rfl) ?_ _
       (try go_wp2_with fail)
       go_meet
       exact ⟨_,_,_,_,_,curB,curD,rfl,five_set hE,⟨five_far hB.b (blk_ne2 hB.b hE ne_str_json),hB.c⟩,⟨five_far hD.b (row_ne hE hD hcp),hD.c⟩,five_fr t5 lE⟩
      ·skip
       have lE:U3.heap.size≤u3.heap.size:=t3.size
       have t4:Fr NoB U3 (u3.alloc (.cells #[.int .i64 0,.int .i64 0,.string ⟨#[]⟩,.slice none 0 0,.slice none 0 0] 31)):=t3.alloc _
       have neEC:u3.heap.size≠gC:=fun e=>by have:=hC.lt;omega
       have hC:=hC.alloc (.cells #[.int .i64 0,.int .i64 0,.string ⟨#[]⟩,.slice none 0 0,.slice none 0 0] 31)
       have hB:=hB.al (.cells #[.int .i64 0,.int .i64 0,.string ⟨#[]⟩,.slice none 0 0,.slice none 0 0] 31)
       have hE:Blk (u3.alloc (.cells #[.int .i64 0,.int .i64 0,.string ⟨#[]⟩,.slice none 0 0,.slice none 0 0] 31)) u3.heap.size 31 zj:=Blk.new u3 31 #[.int .i64 0,.int .i64 0,.string ⟨#[]⟩,.slice none 0 0,.slice none 0 0]
       go_simp
       (try go_wp2_with fail)
       refine hK.out _ _ (HSS.out _ t4) (fun hHeld => ?_)
       clear hK K
       generalize u3.alloc (.cells #[.int .i64 0,.int .i64 0,.string ⟨#[]⟩,.slice none 0 0,.slice none 0 0] 31)=u4 at *
       generalize u3.heap.size=gE at *
       refine readyL 8 (some 46) rfl rfl (by kernel_rfl) (fun K hK => ?_)
       refine step_nul (by rfl) _ _ (by rfl) HKL (by rfl) (by rfl) t4 hC lC ?_
       intro gD cD u5 AD
       obtain ⟨curD,hD⟩:=AD.row
       have t5:=AD.fr
       have hB:=AD.far _ _ _ hB
       have hE:=AD.farJ _ _ (by first|exact neEC|exact neCE.symm) hE
       refine hK.out _ _ (HSS.out _ t5) (fun hHeld => ?_)
       clear hK K
       clear AD hC
       simp only [Act.put,List.setIfInBounds_toArray,List.set_cons_zero,List.set_cons_succ]
       refine takeL 9 (some 47) ?_ rfl rfl (by kernel_rfl) (by kernel_rfl) (by kernel_rfl) (fun _ _ _ h=>h) rfl ?_ (by assumption) ?_
       rotate_left
       ·(intro w hSw;(try dsimp only at hSw);go_simp;(try with_reducible rfl))
       simp only [Act.put,List.setIfInBounds_toArray,List.set_cons_zero,List.set_cons_succ]
       refine readyL 11 none rfl rfl (by kernel_rfl) (fun K hK => ?_)
       have ff:=zj_facts hE
       obtain ⟨e0,e1,e2,e3,e4,e5,e6,e7,e8,e9⟩:=ff
       go_simp
       (try go_wp2_with fail)
       refine hK.out _ _ (HSS.out _ (five_fr t5 lE)) (fun hHeld => ?_)
       clear hK K e0 e1 e2 e3 e4 e5 e6 e7 e8 e9
       refine wpAnyH_done (by kernel_rfl) ?_ _
       (try go_wp2_with fail)
       go_meet
       exact ⟨_,_,_,_,_,curB,curD,rfl,five_set hE,⟨five_far hB.b (blk_ne2 hB.b hE ne_str_json),hB.c⟩,⟨five_far hD.b (row_ne hE hD hcp),hD.c⟩,five_fr t5 lE⟩
     ·skip
      have lE:U3.heap.size≤u2.heap.size:=t2.size
      have t3:Fr NoB U3 (u2.alloc (.cells #[.int .i64 0,.int .i64 0,.string ⟨#[]⟩,.slice none 0 0,.slice none 0 0] 31)):=t2.alloc _
      have neEA:u2.heap.size≠gA:=fun e=>by have:=hA.lt;omega
      have hA:=hA.alloc (.cells #[.int .i64 0,.int .i64 0,.string ⟨#[]⟩,.slice none 0 0,.slice none 0 0] 31)
      have neEC:u2.heap.size≠gC:=fun e=>by have:=hC.lt;omega
      have hC:=hC.alloc (.cells #[.int .i64 0,.int .i64 0,.string ⟨#[]⟩,.slice none 0 0,.slice none 0 0] 31)
      have hE:Blk (u2.alloc (.cells #[.int .i64 0,.int .i64 0,.string ⟨#[]⟩,.slice none 0 0,.slice none 0 0] 31)) u2.heap.size 31 zj:=Blk.new u2 31 #[.int .i64 0,.int .i64 0,.string ⟨#[]⟩,.slice none 0 0,.slice none 0 0]
      go_simp
      (try go_wp2_with fail)
      refine hK.out _ _ (HSS.out _ t3) (fun hHeld => ?_)
      clear hK K
      generalize u2.alloc (.cells #[.int .i64 0,.int .i64 0,.string ⟨#[]⟩,.slice none 0 0,.slice none 0 0] 31)=u3 at *
      generalize u2.heap.size=gE at *
      refine readyL 3 (some 41) rfl rfl (by kernel_rfl) (fun K hK => ?_)
      refine step_use (by rfl) _ _ (by rfl) HKK (by rfl) (by rfl) t3 hA lA ?_
      intro gB cB u4 AB
      obtain ⟨curB,hB⟩:=AB.row
      have t4:=AB.fr
      have hC:=AB.far _ _ hC
      have hE:=AB.far _ _ hE
      refine hK.out _ _ (HSS.out _ t4) (fun hHeld => ?_)
      clear hK K
      clear AB hA
      simp only [Act.put,List.setIfInBounds_toArray,List.set_cons_zero,List.set_cons_succ]
      refine readyL 8 (some 46) rfl rfl (by kernel_rfl) (fun K hK => ?_)
      refine step_nul (by rfl) _ _ (by rfl) HKL (by rfl) (by rfl) t4 hC lC ?_
      intro gD cD u5 AD
      obtain ⟨curD,hD⟩:=AD.row
      have t5:=AD.fr
      have hB:=AD.far _ _ _ hB
      have hE:=AD.farJ _ _ (by first|exact neEC|exact neCE.symm) hE
      refine hK.out _ _ (HSS.out _ t5) (fun hHeld => ?_)
      clear hK K
      clear AD hC
      simp only [Act.put,List.setIfInBounds_toArray,List.set_cons_zero,List.set_cons_succ]
      refine takeL 9 (some 47) ?_ rfl rfl (by kernel_rfl) (by kernel_rfl) (by kernel_rfl) (fun _ _ _ h=>h) rfl ?_ (by assumption) ?_
      rotate_left
      ·(intro w hSw;(try dsimp only at hSw);go_simp;(try with_reducible rfl))
      simp only [Act.put,List.setIfInBounds_toArray,List.set_cons_zero,List.set_cons_succ]
      refine readyL 11 none rfl rfl (by kernel_rfl) (fun K hK => ?_)
      have ff:=zj_facts hE
      obtain ⟨e0,e1,e2,e3,e4,e5,e6,e7,e8,e9⟩:=ff
      go_simp
      (try go_wp2_with fail)
      refine hK.out _ _ (HSS.out _ (five_fr t5 lE)) (fun hHeld => ?_)
      clear hK K e0 e1 e2 e3 e4 e5 e6 e7 e8 e9
      refine wpAnyH_done (by kernel_rfl) ?_ _
      (try go_wp2_with fail)
      go_meet
      exact ⟨_,_,_,_,_,curB,curD,rfl,five_set hE,⟨five_far hB.b (blk_ne2 hB.b hE ne_str_json),hB.c⟩,⟨five_far hD.b (row_ne hE hD hcp),hD.c⟩,five_fr t5 lE⟩
    ·skip
     have lE:U3.heap.size≤u1.heap.size:=t1.size
     have t2:Fr NoB U3 (u1.alloc (.cells #[.int .i64 0,.int .i64 0,.string ⟨#[]⟩,.slice none 0 0,.slice none 0 0] 31)):=t1.alloc _
     have neEA:u1.heap.size≠gA:=fun e=>by have:=hA.lt;omega
     have hA:=hA.alloc (.cells #[.int .i64 0,.int .i64 0,.string ⟨#[]⟩,.slice none 0 0,.slice none 0 0] 31)
     have hE:Blk (u1.alloc (.cells #[.int .i64 0,.int .i64 0,.string ⟨#[]⟩,.slice none 0 0,.slice none 0 0] 31)) u1.heap.size 31 zj:=Blk.new u1 31 #[.int .i64 0,.int .i64 0,.string ⟨#[]⟩,.slice none 0 0,.slice none 0 0]
     go_simp
     (try go_wp2_with fail)
     refine hK.out _ _ (HSS.out _ t2) (fun hHeld => ?_)
     clear hK K
     generalize u1.alloc (.cells #[.int .i64 0,.int .i64 0,.string ⟨#[]⟩,.slice none 0 0,.slice none 0 0] 31)=u2 at *
     generalize u1.heap.size=gE at *
     refine ready2L 3 5 (some 41) (some 43) rfl rfl rfl rfl (by kernel_rfl) (fun K hK => ?_) (fun K hK => ?_)
     ·skip
      refine step_use (by rfl) _ _ (by rfl) HKK (by rfl) (by rfl) t2 hA lA ?_
      intro gB cB u3 AB
      obtain ⟨curB,hB⟩:=AB.row
      have t3:=AB.fr
      have hE:=AB.far _ _ hE
      refine hK.out _ _ (HSS.out _ t3) (fun hHeld => ?_)
      clear hK K
      clear AB hA
      simp only [Act.put,List.setIfInBounds_toArray,List.set_cons_zero,List.set_cons_succ]
      refine readyL 5 (some 43) rfl rfl (by kernel_rfl) (fun K hK => ?_)
      have lC:U3.heap.size≤u3.heap.size:=t3.size
      have t4:Fr NoB U3 (u3.alloc (.cells #[.int .i64 0,.int .i64 0,.string ⟨#[]⟩,.slice none 0 0,.slice none 0 0] 31)):=t3.alloc _
      have neCE:u3.heap.size≠gE:=fun e=>by have:=hE.lt;omega
      have hE:=hE.alloc (.cells #[.int .i64 0,.int .i64 0,.string ⟨#[]⟩,.slice none 0 0,.slice none 0 0] 31)
      have hB:=hB.al (.cells #[.int .i64 0,.int .i64 0,.string ⟨#[]⟩,.slice none 0 0,.slice none 0 0] 31)
      have hC:Blk (u3.alloc (.cells #[.int .i64 0,.int .i64 0,.string ⟨#[]⟩,.slice none 0 0,.slice none 0 0] 31)) u3.heap.size 31 zj:=Blk.new u3 31 #[.int .i64 0,.int .i64 0,.string ⟨#[]⟩,.slice none 0 0,.slice none 0 0]
      go_simp
      (try go_wp2_with fail)
      refine hK.out _ _ (HSS.out _ t4) (fun hHeld => ?_)
      clear hK K
      generalize u3.alloc (.cells #[.int .i64 0,.int .i64 0,.string ⟨#[]⟩,.slice none 0 0,.slice none 0 0] 31)=u4 at *
      generalize u3.heap.size=gC at *
      refine readyL 8 (some 46) rfl rfl (by kernel_rfl) (fun K hK => ?_)
      refine step_nul (by rfl) _ _ (by rfl) HKL (by rfl) (by rfl) t4 hC lC ?_
      intro gD cD u5 AD
      obtain ⟨curD,hD⟩:=AD.row
      have t5:=AD.fr
      have hB:=AD.far _ _ _ hB
      have hE:=AD.farJ _ _ (by first|exact neEC|exact neCE.symm) hE
      refine hK.out _ _ (HSS.out _ t5) (fun hHeld => ?_)
      clear hK K
      clear AD hC
      simp only [Act.put,List.setIfInBounds_toArray,List.set_cons_zero,List.set_cons_succ]
      refine takeL 9 (some 47) ?_ rfl rfl (by kernel_rfl) (by kernel_rfl) (by kernel_rfl) (fun _ _ _ h=>h) rfl ?_ (by assumption) ?_
      rotate_left
      ·(intro w hSw;(try dsimp only at hSw);go_simp;(try with_reducible rfl))
      simp only [Act.put,List.setIfInBounds_toArray,List.set_cons_zero,List.set_cons_succ]
      refine readyL 11 none rfl rfl (by kernel_rfl) (fun K hK => ?_)
      have ff:=zj_facts hE
      obtain ⟨e0,e1,e2,e3,e4,e5,e6,e7,e8,e9⟩:=ff
      go_simp
      (try go_wp2_with fail)
      refine hK.out _ _ (HSS.out _ (five_fr t5 lE)) (fun hHeld => ?_)
      clear hK K e0 e1 e2 e3 e4 e5 e6 e7 e8 e9
      refine wpAnyH_done (by kernel_rfl) ?_ _
      (try go_wp2_with fail)
      go_meet
      exact ⟨_,_,_,_,_,curB,curD,rfl,five_set hE,⟨five_far hB.b (blk_ne2 hB.b hE ne_str_json),hB.c⟩,⟨five_far hD.b (row_ne hE hD hcp),hD.c⟩,five_fr t5 lE⟩
     ·skip
      have lC:U3.heap.size≤u2.heap.size:=t2.size
      have t3:Fr NoB U3 (u2.alloc (.cells #[.int .i64 0,.int .i64 0,.string ⟨#[]⟩,.slice none 0 0,.slice none 0 0] 31)):=t2.alloc _
      have neCA:u2.heap.size≠gA:=fun e=>by have:=hA.lt;omega
      have hA:=hA.alloc (.cells #[.int .i64 0,.int .i64 0,.string ⟨#[]⟩,.slice none 0 0,.slice none 0 0] 31)
      have neCE:u2.heap.size≠gE:=fun e=>by have:=hE.lt;omega
      have hE:=hE.alloc (.cells #[.int .i64 0,.int .i64 0,.string ⟨#[]⟩,.slice none 0 0,.slice none 0 0] 31)
      have hC:Blk (u2.alloc (.cells #[.int .i64 0,.int .i64 0,.string ⟨#[]⟩,.slice none 0 0,.slice none 0 0] 31)) u2.heap.size 31 zj:=Blk.new u2 31 #[.int .i64 0,.int .i64 0,.string ⟨#[]⟩,.slice none 0 0,.slice none 0 0]
      go_simp
      (try go_wp2_with fail)
      refine hK.out _ _ (HSS.out _ t3) (fun hHeld => ?_)
      clear hK K
      generalize u2.alloc (.cells #[.int .i64 0,.int .i64 0,.string ⟨#[]⟩,.slice none 0 0,.slice none 0 0] 31)=u3 at *
      generalize u2.heap.size=gC at *
      refine readyL 3 (some 41) rfl rfl (by kernel_rfl) (fun K hK => ?_)
      refine step_use (by rfl) _ _ (by rfl) HKK (by rfl) (by rfl) t3 hA lA ?_
      intro gB cB u4 AB
      obtain ⟨curB,hB⟩:=AB.row
      have t4:=AB.fr
      have hE:=AB.far _ _ hE
      have hC:=AB.far _ _ hC
      refine hK.out _ _ (HSS.out _ t4) (fun hHeld => ?_)
      clear hK K
      clear AB hA
      simp only [Act.put,List.setIfInBounds_toArray,List.set_cons_zero,List.set_cons_succ]
      refine readyL 8 (some 46) rfl rfl (by kernel_rfl) (fun K hK => ?_)
      refine step_nul (by rfl) _ _ (by rfl) HKL (by rfl) (by rfl) t4 hC lC ?_
      intro gD cD u5 AD
      obtain ⟨curD,hD⟩:=AD.row
      have t5:=AD.fr
      have hB:=AD.far _ _ _ hB
      have hE:=AD.farJ _ _ (by first|exact neEC|exact neCE.symm) hE
      refine hK.out _ _ (HSS.out _ t5) (fun hHeld => ?_)
      clear hK K
      clear AD hC
      simp only [Act.put,List.setIfInBounds_toArray,List.set_cons_zero,List.set_cons_succ]
      refine takeL 9 (some 47) ?_ rfl rfl (by kernel_rfl) (by kernel_rfl) (by kernel_rfl) (fun _ _ _ h=>h) rfl ?_ (by assumption) ?_
      rotate_left
      ·(intro w hSw;(try dsimp only at hSw);go_simp;(try with_reducible rfl))
      simp only [Act.put,List.setIfInBounds_toArray,List.set_cons_zero,List.set_cons_succ]
      refine readyL 11 none rfl rfl (by kernel_rfl) (fun K hK => ?_)
      have ff:=zj_facts hE
      obtain ⟨e0,e1,e2,e3,e4,e5,e6,e7,e8,e9⟩:=ff
      go_simp
      (try go_wp2_with fail)
      refine hK.out _ _ (HSS.out _ (five_fr t5 lE)) (fun hHeld => ?_)
      clear hK K e0 e1 e2 e3 e4 e5 e6 e7 e8 e9
      refine wpAnyH_done (by kernel_rfl) ?_ _
      (try go_wp2_with fail)
      go_meet
      exact ⟨_,_,_,_,_,curB,curD,rfl,five_set hE,⟨five_far hB.b (blk_ne2 hB.b hE ne_str_json),hB.c⟩,⟨five_far hD.b (row_ne hE hD hcp),hD.c⟩,five_fr t5 lE⟩
   ·skip
    have lC:U3.heap.size≤u0.heap.size:=t0.size
    have t1:Fr NoB U3 (u0.alloc (.cells #[.int .i64 0,.int .i64 0,.string ⟨#[]⟩,.slice none 0 0,.slice none 0 0] 31)):=t0.alloc _
    have hC:Blk (u0.alloc (.cells #[.int .i64 0,.int .i64 0,.string ⟨#[]⟩,.slice none 0 0,.slice none 0 0] 31)) u0.heap.size 31 zj:=Blk.new u0 31 #[.int .i64 0,.int .i64 0,.string ⟨#[]⟩,.slice none 0 0,.slice none 0 0]
    go_simp
    (try go_wp2_with fail)
    refine hK.out _ _ (HSS.out _ t1) (fun hHeld => ?_)
    clear hK K
    generalize u0.alloc (.cells #[.int .i64 0,.int .i64 0,.string ⟨#[]⟩,.slice none 0 0,.slice none 0 0] 31)=u1 at *
    generalize u0.heap.size=gC at *
    refine ready2L 0 10 (some 38) (some 9) rfl rfl rfl rfl (by kernel_rfl) (fun K hK => ?_) (fun K hK => ?_)
    ·skip
     have lA:U3.heap.size≤u1.heap.size:=t1.size
     have t2:Fr NoB U3 (u1.alloc (.cells #[.string ⟨#[117,115,101]⟩] 9)):=t1.alloc _
     have neAC:u1.heap.size≠gC:=fun e=>by have:=hC.lt;omega
     have hC:=hC.alloc (.cells #[.string ⟨#[117,115,101]⟩] 9)
     have hA:Blk (u1.alloc (.cells #[.string ⟨#[117,115,101]⟩] 9)) u1.heap.size 9 #[.string ⟨#[117,115,101]⟩]:=Blk.new u1 9 #[.string ⟨#[117,115,101]⟩]
     go_simp
     (try go_wp2_with fail)
     refine hK.out _ _ (HSS.out _ t2) (fun hHeld => ?_)
     clear hK K
     generalize u1.alloc (.cells #[.string ⟨#[117,115,101]⟩] 9)=u2 at *
     generalize u1.heap.size=gA at *
     refine ready2L 3 10 (some 41) (some 9) rfl rfl rfl rfl (by kernel_rfl) (fun K hK => ?_) (fun K hK => ?_)
     ·skip
      refine step_use (by rfl) _ _ (by rfl) HKK (by rfl) (by rfl) t2 hA lA ?_
      intro gB cB u3 AB
      obtain ⟨curB,hB⟩:=AB.row
      have t3:=AB.fr
      have hC:=AB.far _ _ hC
      refine hK.out _ _ (HSS.out _ t3) (fun hHeld => ?_)
      clear hK K
      clear AB hA
      simp only [Act.put,List.setIfInBounds_toArray,List.set_cons_zero,List.set_cons_succ]
      refine ready2L 8 10 (some 46) (some 9) rfl rfl rfl rfl (by kernel_rfl) (fun K hK => ?_) (fun K hK => ?_)
      ·skip
       refine step_nul (by rfl) _ _ (by rfl) HKL (by rfl) (by rfl) t3 hC lC ?_
       intro gD cD u4 AD
       obtain ⟨curD,hD⟩:=AD.row
       have t4:=AD.fr
       have hB:=AD.far _ _ _ hB
       refine hK.out _ _ (HSS.out _ t4) (fun hHeld => ?_)
       clear hK K
       clear AD hC
       simp only [Act.put,List.setIfInBounds_toArray,List.set_cons_zero,List.set_cons_succ]
       refine takeL 9 (some 47) ?_ rfl rfl (by kernel_rfl) (by kernel_rfl) (by kernel_rfl) (fun _ _ _ h=>h) rfl ?_ (by assumption) ?_
       rotate_left
       ·(intro w hSw;(try dsimp only at hSw);go_simp;(try with_reducible rfl))
       simp only [Act.put,List.setIfInBounds_toArray,List.set_cons_zero,List.set_cons_succ]
       refine readyL 10 (some 9) rfl rfl (by kernel_rfl) (fun K hK => ?_)
       have lE:U3.heap.size≤u4.heap.size:=t4.size
       have t5:Fr NoB U3 (u4.alloc (.cells #[.int .i64 0,.int .i64 0,.string ⟨#[]⟩,.slice none 0 0,.slice none 0 0] 31)):=t4.alloc _
       have hB:=hB.al (.cells #[.int .i64 0,.int .i64 0,.string ⟨#[]⟩,.slice none 0 0,.slice none 0 0] 31)
       have hD:=hD.al (.cells #[.int .i64 0,.int .i64 0,.string ⟨#[]⟩,.slice none 0 0,.slice none 0 0] 31)
       have hE:Blk (u4.alloc (.cells #[.int .i64 0,.int .i64 0,.string ⟨#[]⟩,.slice none 0 0,.slice none 0 0] 31)) u4.heap.size 31 zj:=Blk.new u4 31 #[.int .i64 0,.int .i64 0,.string ⟨#[]⟩,.slice none 0 0,.slice none 0 0]
       go_simp
       (try go_wp2_with fail)
       refine hK.out _ _ (HSS.out _ t5) (fun hHeld => ?_)
       clear hK K
       generalize u4.alloc (.cells #[.int .i64 0,.int .i64 0,.string ⟨#[]⟩,.slice none 0 0,.slice none 0 0] 31)=u5 at *
       generalize u4.heap.size=gE at *
       refine readyL 11 none rfl rfl (by kernel_rfl) (fun K hK => ?_)
       have ff:=zj_facts hE
       obtain ⟨e0,e1,e2,e3,e4,e5,e6,e7,e8,e9⟩:=ff
       go_simp
       (try go_wp2_with fail)
       refine hK.out _ _ (HSS.out _ (five_fr t5 lE)) (fun hHeld => ?_)
       clear hK K e0 e1 e2 e3 e4 e5 e6 e7 e8 e9
       refine wpAnyH_done (by kernel_rfl) ?_ _
       (try go_wp2_with fail)
       go_meet
       exact ⟨_,_,_,_,_,curB,curD,rfl,five_set hE,⟨five_far hB.b (blk_ne2 hB.b hE ne_str_json),hB.c⟩,⟨five_far hD.b (row_ne hE hD hcp),hD.c⟩,five_fr t5 lE⟩
      ·skip
       have lE:U3.heap.size≤u3.heap.size:=t3.size
       have t4:Fr NoB U3 (u3.alloc (.cells #[.int .i64 0,.int .i64 0,.string ⟨#[]⟩,.slice none 0 0,.slice none 0 0] 31)):=t3.alloc _
       have neEC:u3.heap.size≠gC:=fun e=>by have:=hC.lt;omega
       have hC:=hC.alloc (.cells #[.int .i64 0,.int .i64 0,.string ⟨#[]⟩,.slice none 0 0,.slice none 0 0] 31)
       have hB:=hB.al (.cells #[.int .i64 0,.int .i64 0,.string ⟨#[]⟩,.slice none 0 0,.slice none 0 0] 31)
       have hE:Blk (u3.alloc (.cells #[.int .i64 0,.int .i64 0,.string ⟨#[]⟩,.slice none 0 0,.slice none 0 0] 31)) u3.heap.size 31 zj:=Blk.new u3 31 #[.int .i64 0,.int .i64 0,.string ⟨#[]⟩,.slice none 0 0,.slice none 0 0]
       go_simp
       (try go_wp2_with fail)
       refine hK.out _ _ (HSS.out _ t4) (fun hHeld => ?_)
       clear hK K
       generalize u3.alloc (.cells #[.int .i64 0,.int .i64 0,.string ⟨#[]⟩,.slice none 0 0,.slice none 0 0] 31)=u4 at *
       generalize u3.heap.size=gE at *
       refine readyL 8 (some 46) rfl rfl (by kernel_rfl) (fun K hK => ?_)
       refine step_nul (by rfl) _ _ (by rfl) HKL (by rfl) (by rfl) t4 hC lC ?_
       intro gD cD u5 AD
       obtain ⟨curD,hD⟩:=AD.row
       have t5:=AD.fr
       have hB:=AD.far _ _ _ hB
       have hE:=AD.farJ _ _ (by first|exact neEC|exact neCE.symm) hE
       refine hK.out _ _ (HSS.out _ t5) (fun hHeld => ?_)
       clear hK K
       clear AD hC
       simp only [Act.put,List.setIfInBounds_toArray,List.set_cons_zero,List.set_cons_succ]
       refine takeL 9 (some 47) ?_ rfl rfl (by kernel_rfl) (by kernel_rfl) (by kernel_rfl) (fun _ _ _ h=>h) rfl ?_ (by assumption) ?_
       rotate_left
       ·(intro w hSw;(try dsimp only at hSw);go_simp;(try with_reducible rfl))
       simp only [Act.put,List.setIfInBounds_toArray,List.set_cons_zero,List.set_cons_succ]
       refine readyL 11 none rfl rfl (by kernel_rfl) (fun K hK => ?_)
       have ff:=zj_facts hE
       obtain ⟨e0,e1,e2,e3,e4,e5,e6,e7,e8,e9⟩:=ff
       go_simp
       (try go_wp2_with fail)
       refine hK.out _ _ (HSS.out _ (five_fr t5 lE)) (fun hHeld => ?_)
       clear hK K e0 e1 e2 e3 e4 e5 e6 e7 e8 e9
       refine wpAnyH_done (by kernel_rfl) ?_ _
       (try go_wp2_with fail)
       go_meet
       exact ⟨_,_,_,_,_,curB,curD,rfl,five_set hE,⟨five_far hB.b (blk_ne2 hB.b hE ne_str_json),hB.c⟩,⟨five_far hD.b (row_ne hE hD hcp),hD.c⟩,five_fr t5 lE⟩
     ·skip
      have lE:U3.heap.size≤u2.heap.size:=t2.size
      have t3:Fr NoB U3 (u2.alloc (.cells #[.int .i64 0,.int .i64 0,.string ⟨#[]⟩,.slice none 0 0,.slice none 0 0] 31)):=t2.alloc _
      have neEC:u2.heap.size≠gC:=fun e=>by have:=hC.lt;omega
      have hC:=hC.alloc (.cells #[.int .i64 0,.int .i64 0,.string ⟨#[]⟩,.slice none 0 0,.slice none 0 0] 31)
      have neEA:u2.heap.size≠gA:=fun e=>by have:=hA.lt;omega
      have hA:=hA.alloc (.cells #[.int .i64 0,.int .i64 0,.string ⟨#[]⟩,.slice none 0 0,.slice none 0 0] 31)
      have hE:Blk (u2.alloc (.cells #[.int .i64 0,.int .i64 0,.string ⟨#[]⟩,.slice none 0 0,.slice none 0 0] 31)) u2.heap.size 31 zj:=Blk.new u2 31 #[.int .i64 0,.int .i64 0,.string ⟨#[]⟩,.slice none 0 0,.slice none 0 0]
      go_simp
      (try go_wp2_with fail)
      refine hK.out _ _ (HSS.out _ t3) (fun hHeld => ?_)
      clear hK K
      generalize u2.alloc (.cells #[.int .i64 0,.int .i64 0,.string ⟨#[]⟩,.slice none 0 0,.slice none 0 0] 31)=u3 at *
      generalize u2.heap.size=gE at *
      refine readyL 3 (some 41) rfl rfl (by kernel_rfl) (fun K hK => ?_)
      refine step_use (by rfl) _ _ (by rfl) HKK (by rfl) (by rfl) t3 hA lA ?_
      intro gB cB u4 AB
      obtain ⟨curB,hB⟩:=AB.row
      have t4:=AB.fr
      have hC:=AB.far _ _ hC
      have hE:=AB.far _ _ hE
      refine hK.out _ _ (HSS.out _ t4) (fun hHeld => ?_)
      clear hK K
      clear AB hA
      simp only [Act.put,List.setIfInBounds_toArray,List.set_cons_zero,List.set_cons_succ]
      refine readyL 8 (some 46) rfl rfl (by kernel_rfl) (fun K hK => ?_)
      refine step_nul (by rfl) _ _ (by rfl) HKL (by rfl) (by rfl) t4 hC lC ?_
      intro gD cD u5 AD
      obtain ⟨curD,hD⟩:=AD.row
      have t5:=AD.fr
      have hB:=AD.far _ _ _ hB
      have hE:=AD.farJ _ _ (by first|exact neEC|exact neCE.symm) hE
      refine hK.out _ _ (HSS.out _ t5) (fun hHeld => ?_)
      clear hK K
      clear AD hC
      simp only [Act.put,List.setIfInBounds_toArray,List.set_cons_zero,List.set_cons_succ]
      refine takeL 9 (some 47) ?_ rfl rfl (by kernel_rfl) (by kernel_rfl) (by kernel_rfl) (fun _ _ _ h=>h) rfl ?_ (by assumption) ?_
      rotate_left
      ·(intro w hSw;(try dsimp only at hSw);go_simp;(try with_reducible rfl))
      simp only [Act.put,List.setIfInBounds_toArray,List.set_cons_zero,List.set_cons_succ]
      refine readyL 11 none rfl rfl (by kernel_rfl) (fun K hK => ?_)
      have ff:=zj_facts hE
      obtain ⟨e0,e1,e2,e3,e4,e5,e6,e7,e8,e9⟩:=ff
      go_simp
      (try go_wp2_with fail)
      refine hK.out _ _ (HSS.out _ (five_fr t5 lE)) (fun hHeld => ?_)
      clear hK K e0 e1 e2 e3 e4 e5 e6 e7 e8 e9
      refine wpAnyH_done (by kernel_rfl) ?_ _
      (try go_wp2_with fail)
      go_meet
      exact ⟨_,_,_,_,_,curB,curD,rfl,five_set hE,⟨five_far hB.b (blk_ne2 hB.b hE ne_str_json),hB.c⟩,⟨five_far hD.b (row_ne hE hD hcp),hD.c⟩,five_fr t5 lE⟩
    ·skip
     have lE:U3.heap.size≤u1.heap.size:=t1.size
     have t2:Fr NoB U3 (u1.alloc (.cells #[.int .i64 0,.int .i64 0,.string ⟨#[]⟩,.slice none 0 0,.slice none 0 0] 31)):=t1.alloc _
     have neEC:u1.heap.size≠gC:=fun e=>by have:=hC.lt;omega
     have hC:=hC.alloc (.cells #[.int .i64 0,.int .i64 0,.string ⟨#[]⟩,.slice none 0 0,.slice none 0 0] 31)
     have hE:Blk (u1.alloc (.cells #[.int .i64 0,.int .i64 0,.string ⟨#[]⟩,.slice none 0 0,.slice none 0 0] 31)) u1.heap.size 31 zj:=Blk.new u1 31 #[.int .i64 0,.int .i64 0,.string ⟨#[]⟩,.slice none 0 0,.slice none 0 0]
     go_simp
     (try go_wp2_with fail)
     refine hK.out _ _ (HSS.out _ t2) (fun hHeld => ?_)
     clear hK K
     generalize u1.alloc (.cells #[.int .i64 0,.int .i64 0,.string ⟨#[]⟩,.slice none 0 0,.slice none 0 0] 31)=u2 at *
     generalize u1.heap.size=gE at *
     refine readyL 0 (some 38) rfl rfl (by kernel_rfl) (fun K hK => ?_)
     have lA:U3.heap.size≤u2.heap.size:=t2.size
     have t3:Fr NoB U3 (u2.alloc (.cells #[.string ⟨#[117,115,101]⟩] 9)):=t2.alloc _
     have neAC:u2.heap.size≠gC:=fun e=>by have:=hC.lt;omega
     have hC:=hC.alloc (.cells #[.string ⟨#[117,115,101]⟩] 9)
     have neAE:u2.heap.size≠gE:=fun e=>by have:=hE.lt;omega
     have hE:=hE.alloc (.cells #[.string ⟨#[117,115,101]⟩] 9)
     have hA:Blk (u2.alloc (.cells #[.string ⟨#[117,115,101]⟩] 9)) u2.heap.size 9 #[.string ⟨#[117,115,101]⟩]:=Blk.new u2 9 #[.string ⟨#[117,115,101]⟩]
     go_simp
     (try go_wp2_with fail)
     refine hK.out _ _ (HSS.out _ t3) (fun hHeld => ?_)
     clear hK K
     generalize u2.alloc (.cells #[.string ⟨#[117,115,101]⟩] 9)=u3 at *
     generalize u2.heap.size=gA at *
     refine readyL 3 (some 41) rfl rfl (by kernel_rfl) (fun K hK => ?_)
     refine step_use (by rfl) _ _ (by rfl) HKK (by rfl) (by rfl) t3 hA lA ?_
     intro gB cB u4 AB
     obtain ⟨curB,hB⟩:=AB.row
     have t4:=AB.fr
     have hC:=AB.far _ _ hC
     have hE:=AB.far _ _ hE
     refine hK.out _ _ (HSS.out _ t4) (fun hHeld => ?_)
     clear hK K
     clear AB hA
     simp only [Act.put,List.setIfInBounds_toArray,List.set_cons_zero,List.set_cons_succ]
     refine readyL 8 (some 46) rfl rfl (by kernel_rfl) (fun K hK => ?_)
     refine step_nul (by rfl) _ _ (by rfl) HKL (by rfl) (by rfl) t4 hC lC ?_
     intro gD cD u5 AD
     obtain ⟨curD,hD⟩:=AD.row
     have t5:=AD.fr
     have hB:=AD.far _ _ _ hB
     have hE:=AD.farJ _ _ (by first|exact neEC|exact neCE.symm) hE
     refine hK.out _ _ (HSS.out _ t5) (fun hHeld => ?_)
     clear hK K
     clear AD hC
     simp only [Act.put,List.setIfInBounds_toArray,List.set_cons_zero,List.set_cons_succ]
     refine takeL 9 (some 47) ?_ rfl rfl (by kernel_rfl) (by kernel_rfl) (by kernel_rfl) (fun _ _ _ h=>h) rfl ?_ (by assumption) ?_
     rotate_left
     ·(intro w hSw;(try dsimp only at hSw);go_simp;(try with_reducible rfl))
     simp only [Act.put,List.setIfInBounds_toArray,List.set_cons_zero,List.set_cons_succ]
     refine readyL 11 none rfl rfl (by kernel_rfl) (fun K hK => ?_)
     have ff:=zj_facts hE
     obtain ⟨e0,e1,e2,e3,e4,e5,e6,e7,e8,e9⟩:=ff
     go_simp
     (try go_wp2_with fail)
     refine hK.out _ _ (HSS.out _ (five_fr t5 lE)) (fun hHeld => ?_)
     clear hK K e0 e1 e2 e3 e4 e5 e6 e7 e8 e9
     refine wpAnyH_done (by kernel_rfl) ?_ _
     (try go_wp2_with fail)
     go_meet
     exact ⟨_,_,_,_,_,curB,curD,rfl,five_set hE,⟨five_far hB.b (blk_ne2 hB.b hE ne_str_json),hB.c⟩,⟨five_far hD.b (row_ne hE hD hcp),hD.c⟩,five_fr t5 lE⟩
   ·skip
    have lE:U3.heap.size≤u0.heap.size:=t0.size
    have t1:Fr NoB U3 (u0.alloc (.cells #[.int .i64 0,.int .i64 0,.string ⟨#[]⟩,.slice none 0 0,.slice none 0 0] 31)):=t0.alloc _
    have hE:Blk (u0.alloc (.cells #[.int .i64 0,.int .i64 0,.string ⟨#[]⟩,.slice none 0 0,.slice none 0 0] 31)) u0.heap.size 31 zj:=Blk.new u0 31 #[.int .i64 0,.int .i64 0,.string ⟨#[]⟩,.slice none 0 0,.slice none 0 0]
    go_simp
    (try go_wp2_with fail)
    refine hK.out _ _ (HSS.out _ t1) (fun hHeld => ?_)
    clear hK K
    generalize u0.alloc (.cells #[.int .i64 0,.int .i64 0,.string ⟨#[]⟩,.slice none 0 0,.slice none 0 0] 31)=u1 at *
    generalize u0.heap.size=gE at *
    refine ready2L 0 5 (some 38) (some 43) rfl rfl rfl rfl (by kernel_rfl) (fun K hK => ?_) (fun K hK => ?_)
    ·skip
     have lA:U3.heap.size≤u1.heap.size:=t1.size
     have t2:Fr NoB U3 (u1.alloc (.cells #[.string ⟨#[117,115,101]⟩] 9)):=t1.alloc _
     have neAE:u1.heap.size≠gE:=fun e=>by have:=hE.lt;omega
     have hE:=hE.alloc (.cells #[.string ⟨#[117,115,101]⟩] 9)
     have hA:Blk (u1.alloc (.cells #[.string ⟨#[117,115,101]⟩] 9)) u1.heap.size 9 #[.string ⟨#[117,115,101]⟩]:=Blk.new u1 9 #[.string ⟨#[117,115,101]⟩]
     go_simp
     (try go_wp2_with fail)
     refine hK.out _ _ (HSS.out _ t2) (fun hHeld => ?_)
     clear hK K
     generalize u1.alloc (.cells #[.string ⟨#[117,115,101]⟩] 9)=u2 at *
     generalize u1.heap.size=gA at *
     refine ready2L 3 5 (some 41) (some 43) rfl rfl rfl rfl (by kernel_rfl) (fun K hK => ?_) (fun K hK => ?_)
     ·skip
      refine step_use (by rfl) _ _ (by rfl) HKK (by rfl) (by rfl) t2 hA lA ?_
      intro gB cB u3 AB
      obtain ⟨curB,hB⟩:=AB.row
      have t3:=AB.fr
      have hE:=AB.far _ _ hE
      refine hK.out _ _ (HSS.out _ t3) (fun hHeld => ?_)
      clear hK K
      clear AB hA
      simp only [Act.put,List.setIfInBounds_toArray,List.set_cons_zero,List.set_cons_succ]
      refine readyL 5 (some 43) rfl rfl (by kernel_rfl) (fun K hK => ?_)
      have lC:U3.heap.size≤u3.heap.size:=t3.size
      have t4:Fr NoB U3 (u3.alloc (.cells #[.int .i64 0,.int .i64 0,.string ⟨#[]⟩,.slice none 0 0,.slice none 0 0] 31)):=t3.alloc _
      have neCE:u3.heap.size≠gE:=fun e=>by have:=hE.lt;omega
      have hE:=hE.alloc (.cells #[.int .i64 0,.int .i64 0,.string ⟨#[]⟩,.slice none 0 0,.slice none 0 0] 31)
      have hB:=hB.al (.cells #[.int .i64 0,.int .i64 0,.string ⟨#[]⟩,.slice none 0 0,.slice none 0 0] 31)
      have hC:Blk (u3.alloc (.cells #[.int .i64 0,.int .i64 0,.string ⟨#[]⟩,.slice none 0 0,.slice none 0 0] 31)) u3.heap.size 31 zj:=Blk.new u3 31 #[.int .i64 0,.int .i64 0,.string ⟨#[]⟩,.slice none 0 0,.slice none 0 0]
      go_simp
      (try go_wp2_with fail)
      refine hK.out _ _ (HSS.out _ t4) (fun hHeld => ?_)
      clear hK K
      generalize u3.alloc (.cells #[.int .i64 0,.int .i64 0,.string ⟨#[]⟩,.slice none 0 0,.slice none 0 0] 31)=u4 at *
      generalize u3.heap.size=gC at *
      refine readyL 8 (some 46) rfl rfl (by kernel_rfl) (fun K hK => ?_)
      refine step_nul (by rfl) _ _ (by rfl) HKL (by rfl) (by rfl) t4 hC lC ?_
      intro gD cD u5 AD
      obtain ⟨curD,hD⟩:=AD.row
      have t5:=AD.fr
      have hB:=AD.far _ _ _ hB
      have hE:=AD.farJ _ _ (by first|exact neEC|exact neCE.symm) hE
      refine hK.out _ _ (HSS.out _ t5) (fun hHeld => ?_)
      clear hK K
      clear AD hC
      simp only [Act.put,List.setIfInBounds_toArray,List.set_cons_zero,List.set_cons_succ]
      refine takeL 9 (some 47) ?_ rfl rfl (by kernel_rfl) (by kernel_rfl) (by kernel_rfl) (fun _ _ _ h=>h) rfl ?_ (by assumption) ?_
      rotate_left
      ·(intro w hSw;(try dsimp only at hSw);go_simp;(try with_reducible rfl))
      simp only [Act.put,List.setIfInBounds_toArray,List.set_cons_zero,List.set_cons_succ]
      refine readyL 11 none rfl rfl (by kernel_rfl) (fun K hK => ?_)
      have ff:=zj_facts hE
      obtain ⟨e0,e1,e2,e3,e4,e5,e6,e7,e8,e9⟩:=ff
      go_simp
      (try go_wp2_with fail)
      refine hK.out _ _ (HSS.out _ (five_fr t5 lE)) (fun hHeld => ?_)
      clear hK K e0 e1 e2 e3 e4 e5 e6 e7 e8 e9
      refine wpAnyH_done (by kernel_rfl) ?_ _
      (try go_wp2_with fail)
      go_meet
      exact ⟨_,_,_,_,_,curB,curD,rfl,five_set hE,⟨five_far hB.b (blk_ne2 hB.b hE ne_str_json),hB.c⟩,⟨five_far hD.b (row_ne hE hD hcp),hD.c⟩,five_fr t5 lE⟩
     ·skip
      have lC:U3.heap.size≤u2.heap.size:=t2.size
      have t3:Fr NoB U3 (u2.alloc (.cells #[.int .i64 0,.int .i64 0,.string ⟨#[]⟩,.slice none 0 0,.slice none 0 0] 31)):=t2.alloc _
      have neCE:u2.heap.size≠gE:=fun e=>by have:=hE.lt;omega
      have hE:=hE.alloc (.cells #[.int .i64 0,.int .i64 0,.string ⟨#[]⟩,.slice none 0 0,.slice none 0 0] 31)
      have neCA:u2.heap.size≠gA:=fun e=>by have:=hA.lt;omega
      have hA:=hA.alloc (.cells #[.int .i64 0,.int .i64 0,.string ⟨#[]⟩,.slice none 0 0,.slice none 0 0] 31)
      have hC:Blk (u2.alloc (.cells #[.int .i64 0,.int .i64 0,.string ⟨#[]⟩,.slice none 0 0,.slice none 0 0] 31)) u2.heap.size 31 zj:=Blk.new u2 31 #[.int .i64 0,.int .i64 0,.string ⟨#[]⟩,.slice none 0 0,.slice none 0 0]
      go_simp
      (try go_wp2_with fail)
      refine hK.out _ _ (HSS.out _ t3) (fun hHeld => ?_)
      clear hK K
      generalize u2.alloc (.cells #[.int .i64 0,.int .i64 0,.string ⟨#[]⟩,.slice none 0 0,.slice none 0 0] 31)=u3 at *
      generalize u2.heap.size=gC at *
      refine readyL 3 (some 41) rfl rfl (by kernel_rfl) (fun K hK => ?_)
      refine step_use (by rfl) _ _ (by rfl) HKK (by rfl) (by rfl) t3 hA lA ?_
      intro gB cB u4 AB
      obtain ⟨curB,hB⟩:=AB.row
      have t4:=AB.fr
      have hE:=AB.far _ _ hE
      have hC:=AB.far _ _ hC
      refine hK.out _ _ (HSS.out _ t4) (fun hHeld => ?_)
      clear hK K
      clear AB hA
      simp only [Act.put,List.setIfInBounds_toArray,List.set_cons_zero,List.set_cons_succ]
      refine readyL 8 (some 46) rfl rfl (by kernel_rfl) (fun K hK => ?_)
      refine step_nul (by rfl) _ _ (by rfl) HKL (by rfl) (by rfl) t4 hC lC ?_
      intro gD cD u5 AD
      obtain ⟨curD,hD⟩:=AD.row
      have t5:=AD.fr
      have hB:=AD.far _ _ _ hB
      have hE:=AD.farJ _ _ (by first|exact neEC|exact neCE.symm) hE
      refine hK.out _ _ (HSS.out _ t5) (fun hHeld => ?_)
      clear hK K
      clear AD hC
      simp only [Act.put,List.setIfInBounds_toArray,List.set_cons_zero,List.set_cons_succ]
      refine takeL 9 (some 47) ?_ rfl rfl (by kernel_rfl) (by kernel_rfl) (by kernel_rfl) (fun _ _ _ h=>h) rfl ?_ (by assumption) ?_
      rotate_left
      ·(intro w hSw;(try dsimp only at hSw);go_simp;(try with_reducible rfl))
      simp only [Act.put,List.setIfInBounds_toArray,List.set_cons_zero,List.set_cons_succ]
      refine readyL 11 none rfl rfl (by kernel_rfl) (fun K hK => ?_)
      have ff:=zj_facts hE
      obtain ⟨e0,e1,e2,e3,e4,e5,e6,e7,e8,e9⟩:=ff
      go_simp
      (try go_wp2_with fail)
      refine hK.out _ _ (HSS.out _ (five_fr t5 lE)) (fun hHeld => ?_)
      clear hK K e0 e1 e2 e3 e4 e5 e6 e7 e8 e9
      refine wpAnyH_done (by kernel_rfl) ?_ _
      (try go_wp2_with fail)
      go_meet
      exact ⟨_,_,_,_,_,curB,curD,rfl,five_set hE,⟨five_far hB.b (blk_ne2 hB.b hE ne_str_json),hB.c⟩,⟨five_far hD.b (row_ne hE hD hcp),hD.c⟩,five_fr t5 lE⟩
    ·skip
     have lC:U3.heap.size≤u1.heap.size:=t1.size
     have t2:Fr NoB U3 (u1.alloc (.cells #[.int .i64 0,.int .i64 0,.string ⟨#[]⟩,.slice none 0 0,.slice none 0 0] 31)):=t1.alloc _
     have neCE:u1.heap.size≠gE:=fun e=>by have:=hE.lt;omega
     have hE:=hE.alloc (.cells #[.int .i64 0,.int .i64 0,.string ⟨#[]⟩,.slice none 0 0,.slice none 0 0] 31)
     have hC:Blk (u1.alloc (.cells #[.int .i64 0,.int .i64 0,.string ⟨#[]⟩,.slice none 0 0,.slice none 0 0] 31)) u1.heap.size 31 zj:=Blk.new u1 31 #[.int .i64 0,.int .i64 0,.string ⟨#[]⟩,.slice none 0 0,.slice none 0 0]
     go_simp
     (try go_wp2_with fail)
     refine hK.out _ _ (HSS.out _ t2) (fun hHeld => ?_)
     clear hK K
     generalize u1.alloc (.cells #[.int .i64 0,.int .i64 0,.string ⟨#[]⟩,.slice none 0 0,.slice none 0 0] 31)=u2 at *
     generalize u1.heap.size=gC at *
     refine readyL 0 (some 38) rfl rfl (by kernel_rfl) (fun K hK => ?_)
     have lA:U3.heap.size≤u2.heap.size:=t2.size
     have t3:Fr NoB U3 (u2.alloc (.cells #[.string ⟨#[117,115,101]⟩] 9)):=t2.alloc _
     have neAE:u2.heap.size≠gE:=fun e=>by have:=hE.lt;omega
     have hE:=hE.alloc (.cells #[.string ⟨#[117,115,101]⟩] 9)
     have neAC:u2.heap.size≠gC:=fun e=>by have:=hC.lt;omega
     have hC:=hC.alloc (.cells #[.string ⟨#[117,115,101]⟩] 9)
     have hA:Blk (u2.alloc (.cells #[.string ⟨#[117,115,101]⟩] 9)) u2.heap.size 9 #[.string ⟨#[117,115,101]⟩]:=Blk.new u2 9 #[.string ⟨#[117,115,101]⟩]
     go_simp
     (try go_wp2_with fail)
     refine hK.out _ _ (HSS.out _ t3) (fun hHeld => ?_)
     clear hK K
     generalize u2.alloc (.cells #[.string ⟨#[117,115,101]⟩] 9)=u3 at *
     generalize u2.heap.size=gA at *
     refine readyL 3 (some 41) rfl rfl (by kernel_rfl) (fun K hK => ?_)
     refine step_use (by rfl) _ _ (by rfl) HKK (by rfl) (by rfl) t3 hA lA ?_
     intro gB cB u4 AB
     obtain ⟨curB,hB⟩:=AB.row
     have t4:=AB.fr
     have hE:=AB.far _ _ hE
     have hC:=AB.far _ _ hC
     refine hK.out _ _ (HSS.out _ t4) (fun hHeld => ?_)
     clear hK K
     clear AB hA
     simp only [Act.put,List.setIfInBounds_toArray,List.set_cons_zero,List.set_cons_succ]
     refine readyL 8 (some 46) rfl rfl (by kernel_rfl) (fun K hK => ?_)
     refine step_nul (by rfl) _ _ (by rfl) HKL (by rfl) (by rfl) t4 hC lC ?_
     intro gD cD u5 AD
     obtain ⟨curD,hD⟩:=AD.row
     have t5:=AD.fr
     have hB:=AD.far _ _ _ hB
     have hE:=AD.farJ _ _ (by first|exact neEC|exact neCE.symm) hE
     refine hK.out _ _ (HSS.out _ t5) (fun hHeld => ?_)
     clear hK K
     clear AD hC
     simp only [Act.put,List.setIfInBounds_toArray,List.set_cons_zero,List.set_cons_succ]
     refine takeL 9 (some 47) ?_ rfl rfl (by kernel_rfl) (by kernel_rfl) (by kernel_rfl) (fun _ _ _ h=>h) rfl ?_ (by assumption) ?_
     rotate_left
     ·(intro w hSw;(try dsimp only at hSw);go_simp;(try with_reducible rfl))
     simp only [Act.put,List.setIfInBounds_toArray,List.set_cons_zero,List.set_cons_succ]
     refine readyL 11 none rfl rfl (by kernel_rfl) (fun K hK => ?_)
     have ff:=zj_facts hE
     obtain ⟨e0,e1,e2,e3,e4,e5,e6,e7,e8,e9⟩:=ff
     go_simp
     (try go_wp2_with fail)
     refine hK.out _ _ (HSS.out _ (five_fr t5 lE)) (fun hHeld => ?_)
     clear hK K e0 e1 e2 e3 e4 e5 e6 e7 e8 e9
     refine wpAnyH_done (by kernel_rfl) ?_ _
     (try go_wp2_with fail)
     go_meet
     exact ⟨_,_,_,_,_,curB,curD,rfl,five_set hE,⟨five_far hB.b (blk_ne2 hB.b hE ne_str_json),hB.c⟩,⟨five_far hD.b (row_ne hE hD hcp),hD.c⟩,five_fr t5 lE⟩
  case rest=>
  obtain ⟨g9,g1,g2,c1,c2,cur1,cur2,rfl,b9,r1,r2,f4⟩:=hcut
  have F4:=F3.trans f4
  have R9:=HMA.out wc g1 g2 c1 c2 cur1 cur2 f4 r1 r2
  have bK4:=f4.blk bK3 (fun e=>e)
  have bV4:=f4.blk bV3 (fun e=>e)
  have b34:=f4.blk b3 (fun e=>e)
  have b24:=f4.blk b23 (fun e=>e)
  have R4:=R3.all f4
  rw [← HTV.out] at R4
  clear r1 r2 HMA HSS HKK HKL bK3 bV3 b3 b23 R3 s3 s4 F3 f4
  go_upto_region 8 with (first|(refine ldJ rfl _ rfl g9 rfl b9 rfl ?_)|(go_at_call 16;((with_reducible refine (HO2.out _ _ F4 R9).mono ?_);rintro er w5 ⟨rfl,f5⟩;have n5:=Blk.new w5 27 zk))|(refine wpList_store_row rfl 27 _ _ rfl w5.heap.size (kyC k) rfl rfl 27 _ n5 size_key rfl honek ?_))
  obtain ⟨p5,b5⟩:=put_key w5 k
  have F5:=F4.trans (f5.trans p5)
  have bK5:=(f5.trans p5).blk bK4 (fun e=>e)
  have bV5:=(f5.trans p5).blk bV4 (fun e=>e)
  have b35:=(f5.trans p5).blk b34 (fun e=>e)
  have b25:=(f5.trans p5).blk b24 (fun e=>e)
  have R5:=R4.all (f5.trans p5)
  clear n5 f5 p5 bK4 bV4 b34 b24 R4 R9 b9 F4 HO2
  generalize (w5.alloc (.cells zk 27)).setRow w5.heap.size (kyC k)=U5 at *
  have HE:∀ u,(Op.equalIn 10000 27 (.agg #[.int .i64 k.kty,.string ⟨k.kid.toArray⟩,.string ⟨k.alg.toArray⟩,.string ⟨k.n.toArray⟩,.string ⟨k.e.toArray⟩,.string ⟨k.x.toArray⟩,.string ⟨k.y.toArray⟩,.string ⟨k.sec.toArray⟩]) (.agg #[.int .i64 k.kty,.string ⟨k.kid.toArray⟩,.string ⟨k.alg.toArray⟩,.string ⟨k.n.toArray⟩,.string ⟨k.e.toArray⟩,.string ⟨k.x.toArray⟩,.string ⟨k.y.toArray⟩,.string ⟨k.sec.toArray⟩])).run Tryz.prog u=.ok true u:=key_same k
  obtain ⟨a0,a1,a2,a3,a4,a5,a6,a7⟩:=key_cells bK5
  obtain ⟨d0,d1,d2,d3,d4,d5,d6,d7⟩:=key_cells b35
  obtain ⟨e0,e1,e2,e3,e4,e5,e6,e7⟩:=key_cells b5
  go_upto_region 10 with fail
  clear a0 a1 a2 a3 a4 a5 a6 a7 d0 d1 d2 d3 d4 d5 d6 d7 e0 e1 e2 e3 e4 e5 e6 e7
  have q1:=Blk.new U5 9 #[.string ⟨#[107,101,121,115]⟩]
  have b26:=b25.alloc (.cells #[.string ⟨#[107,101,121,115]⟩] 9)
  have q2:=Blk.new (U5.alloc (.cells #[.string ⟨#[107,101,121,115]⟩] 9)) 31 #[.int .i64 6,.int .i64 0,.string ⟨#[]⟩,.slice (some ⟨gl,ol,none⟩) n0 cl,.slice (some ⟨gk,ok,none⟩) n0 ck]
  have q3:=Blk.new ((U5.alloc (.cells #[.string ⟨#[107,101,121,115]⟩] 9)).alloc (.cells #[.int .i64 6,.int .i64 0,.string ⟨#[]⟩,.slice (some ⟨gl,ol,none⟩) n0 cl,.slice (some ⟨gk,ok,none⟩) n0 ck] 31)) 31 #[.int .i64 5,.int .i64 0,.string ⟨#[]⟩,.slice (some ⟨U5.heap.size+1,0,none⟩) 1 1,.slice none 0 0]
  have z1:(U5.alloc (.cells #[.string ⟨#[107,101,121,115]⟩] 9)).heap.size=U5.heap.size+1:=by simp
  have z2:((U5.alloc (.cells #[.string ⟨#[107,101,121,115]⟩] 9)).alloc (.cells #[.int .i64 6,.int .i64 0,.string ⟨#[]⟩,.slice (some ⟨gl,ol,none⟩) n0 cl,.slice (some ⟨gk,ok,none⟩) n0 ck] 31)).heap.size=U5.heap.size+2:=by simp
  rw [z1] at q2
  rw [z2] at q3
  have fz:Fr NoB U5 (((U5.alloc (.cells #[.string ⟨#[107,101,121,115]⟩] 9)).alloc (.cells #[.int .i64 6,.int .i64 0,.string ⟨#[]⟩,.slice (some ⟨gl,ol,none⟩) n0 cl,.slice (some ⟨gk,ok,none⟩) n0 ck] 31)).alloc (.cells #[.int .i64 5,.int .i64 0,.string ⟨#[]⟩,.slice (some ⟨U5.heap.size+1,0,none⟩) 1 1,.slice none 0 0] 31)):=(((Fr.refl _ _).alloc _).alloc _).alloc _
  have HOA:=Lib.hid (onek_at (U5.heap.size+1) (U5.heap.size+2) U5.heap.size (R5.all fz) (q2.alloc _) q3 ((q1.alloc _).alloc _))
  have HSET:=Lib.hid (HST1.out _ _ (F5.trans fz) HOA.out)
  clear q1 q2 q3 z1 z2 HOA HST1 R5
  go_upto_region 11 with (first|(refine ldJ rfl _ rfl w1.heap.size rfl b26 rfl ?_)|(go_at_call 18;((refine HSET.out.mono ?_);rintro er w6 ⟨⟨gs,rfl,hp,hg1,hg2,hcell,hfz⟩,f6⟩)))
  have bK6:=(fz.trans f6).blk bK5 (fun e=>e)
  have bV6:=(fz.trans f6).blk bV5 (fun e=>e)
  have F6:=F5.trans (fz.trans f6)
  obtain ⟨a0,a1,a2,a3,a4,a5,a6,a7⟩:=key_cells bK6
  have d0:w6.cell? ⟨gs,0,none⟩=some (.int .i64 k.kty):=hcell 0 _ rfl
  have d1:w6.cell? ⟨gs,1,none⟩=some (.string ⟨k.kid.toArray⟩):=hcell 1 _ rfl
  have d2:w6.cell? ⟨gs,2,none⟩=some (.string ⟨k.alg.toArray⟩):=hcell 2 _ rfl
  have d3:w6.cell? ⟨gs,3,none⟩=some (.string ⟨k.n.toArray⟩):=hcell 3 _ rfl
  have d4:w6.cell? ⟨gs,4,none⟩=some (.string ⟨k.e.toArray⟩):=hcell 4 _ rfl
  have d5:w6.cell? ⟨gs,5,none⟩=some (.string ⟨k.x.toArray⟩):=hcell 5 _ rfl
  have d6:w6.cell? ⟨gs,6,none⟩=some (.string ⟨k.y.toArray⟩):=hcell 6 _ rfl
  have d7:w6.cell? ⟨gs,7,none⟩=some (.string ⟨k.sec.toArray⟩):=hcell 7 _ rfl
  clear hcell hfz b25 b26 b35 b5 bK5 bV5 fz f6 F5 HSET
  go_quiet (fail)
  go_upto_region 13 with fail
  have bV7:=bV6
  have FZ:=F6
  clear bV6 F6
  obtain ⟨Wt,hWt⟩:∃ x,x=w6.drewN nq:=⟨_,rfl⟩
  have Ft:Fr NoB w Wt:=by rw [hWt];exact FZ.drewN _
  have bV:Blk Wt (w.heap.size+1) 31 #[v0,v1,v2,v3,v4]:=by rw [hWt];exact bV7.drewN _
  rw [← hWt]
  clear hWt FZ bV7
  have HO:=Lib.hid (HOf.out Wt j _ Ft (hat.all Ft) hsz)
  have honez:=one_key kz
  cases hq:ofK j with
  | none=>
   rw [hq] at HO
   clear hq
   go_upto_region 14 with (first|(refine ldJ rfl _ rfl (w.heap.size+1) rfl bV rfl ?_)|(go_at_call 16;((with_reducible refine HO.out.mono ?_);rintro er w6 ⟨rfl,f6⟩;have n6:=Blk.new w6 27 zk))|(refine wpList_store_row rfl 27 _ _ rfl w6.heap.size #[.int .i64 0,.string ⟨#[]⟩,.string ⟨#[]⟩,.string ⟨#[]⟩,.string ⟨#[]⟩,.string ⟨#[]⟩,.string ⟨#[]⟩,.string ⟨#[]⟩] rfl rfl 27 _ n6 size_key rfl honez ?_))
   have F7:=(Ft.trans f6).trans (((Fr.refl NoB w6).alloc (.cells zk 27)).setRow w6.heap.size #[.int .i64 0,.string ⟨#[]⟩,.string ⟨#[]⟩,.string ⟨#[]⟩,.string ⟨#[]⟩,.string ⟨#[]⟩,.string ⟨#[]⟩,.string ⟨#[]⟩] (Or.inl (Nat.le_refl _)))
   have b7:=n6.setRow #[.int .i64 0,.string ⟨#[]⟩,.string ⟨#[]⟩,.string ⟨#[]⟩,.string ⟨#[]⟩,.string ⟨#[]⟩,.string ⟨#[]⟩,.string ⟨#[]⟩]
   clear n6 bV HO
   generalize (w6.alloc (.cells zk 27)).setRow w6.heap.size #[.int .i64 0,.string ⟨#[]⟩,.string ⟨#[]⟩,.string ⟨#[]⟩,.string ⟨#[]⟩,.string ⟨#[]⟩,.string ⟨#[]⟩,.string ⟨#[]⟩]=U7 at *
   have HE:∀ u,(Op.equalIn 10000 27 (.agg #[.int .i64 0,.string ⟨#[]⟩,.string ⟨#[]⟩,.string ⟨#[]⟩,.string ⟨#[]⟩,.string ⟨#[]⟩,.string ⟨#[]⟩,.string ⟨#[]⟩]) (.agg #[.int .i64 0,.string ⟨#[]⟩,.string ⟨#[]⟩,.string ⟨#[]⟩,.string ⟨#[]⟩,.string ⟨#[]⟩,.string ⟨#[]⟩,.string ⟨#[]⟩])).run Tryz.prog u=.ok true u:=key_same kz
   go_wp2_with (first|(refine ldK rfl _ rfl w6.heap.size rfl b7 rfl ?_)|(go_at_call 15;((with_reducible refine (HFx.out _ F7).mono ?_);rintro er w8 ⟨rfl,f8⟩)))
   go_ret
   exact ⟨rfl,F7.trans f8⟩
  | some q=>
   rw [hq] at HO
   have hqk:=of_ok hq
   have hqs:=ok_small hqk
   have HVq:Hid (∀ u,Calls Tryz.prog 8 #[.agg (kyC q)] u fun e w'=>∃ v,e=.returned (.tuple #[v,.int .i64 0])∧RAt (All w') w' (valK q) v∧Fr NoB u w'):=Lib.hid (fun u=>by
    have:=value_any q u (sm_of (ok_int hqk) (by omega))
    rw [hqk] at this
    refine this.mono ?_
    rintro e w' ⟨v,rfl,h,f⟩
    exact ⟨v,rfl,RAt.mono (fun _ h=>h.2) _ _ h,f⟩)
   have HOq:Hid (∀ u y,Fr NoB w u→RAt (All u) u (valK q) y→Calls Tryz.prog 16 #[y] u fun e w'=>e=.returned (.tuple #[.agg (kyC q),.int .i64 0])∧Fr NoB u w'):=Lib.hid (fun u y f h=>by
    have:=HOf.out u (valK q) y f h (by have:=val_sz q;omega)
    rw [of_val hqk] at this
    exact this)
   have HCq:Hid (∀ u,Calls Tryz.prog 12 #[.agg (kyC q)] u fun e w'=>e=.returned (.int .i64 0)∧Fr NoB u w'):=Lib.hid (fun u=>by
    have:=kcheck_any q u (sm_of (ok_int hqk) (by omega))
    rw [hqk] at this
    exact this)
   have honeq:=one_key q
   clear hq hqk hqs HOf
   go_upto_region 14 with (first|(refine ldJ rfl _ rfl (w.heap.size+1) rfl bV rfl ?_)|(go_at_call 16;((with_reducible refine HO.out.mono ?_);rintro er w6 ⟨rfl,f6⟩;have n6:=Blk.new w6 27 zk))|(refine wpList_store_row rfl 27 _ _ rfl w6.heap.size (kyC q) rfl rfl 27 _ n6 size_key rfl honeq ?_))
   obtain ⟨p7,b7⟩:=put_key w6 q
   have F7:=(Ft.trans f6).trans p7
   clear n6 bV HO p7 f6
   generalize (w6.alloc (.cells zk 27)).setRow w6.heap.size (kyC q)=U7 at *
   go_upto_region 17 with (first|(refine ldK rfl _ rfl w6.heap.size rfl b7 rfl ?_)|(go_at_call 8;((with_reducible refine (HVq.out _).mono ?_);rintro er w8 ⟨v8,rfl,h8,f8⟩;obtain ⟨y0,y1,y2,y3,y4,rfl,o8⟩:=h8.form;have n8:=Blk.new w8 31 zj))|(refine wpList_store_row rfl 31 _ _ rfl w8.heap.size #[y0,y1,y2,y3,y4] rfl rfl 31 zj n8 size_json rfl o8 ?_))
   obtain ⟨p8,b8⟩:=put_row w8 y0 y1 y2 y3 y4
   have F8:=F7.trans (f8.trans p8)
   have R8:=h8.all p8
   have b78:=(f8.trans p8).blk b7 (fun e=>e)
   clear n8 h8 f8 p8 b7 o8 HVq
   generalize (w8.alloc (.cells zj 31)).setRow w8.heap.size #[y0,y1,y2,y3,y4]=U8 at *
   go_upto_region 18 with (first|(refine ldJ rfl _ rfl w8.heap.size rfl b8 rfl ?_)|(go_at_call 16;((with_reducible refine (HOq.out _ _ F8 R8).mono ?_);rintro er w9 ⟨rfl,f9⟩;have n9:=Blk.new w9 27 zk))|(refine wpList_store_row rfl 27 _ _ rfl w9.heap.size (kyC q) rfl rfl 27 _ n9 size_key rfl honeq ?_))
   obtain ⟨p9,b9⟩:=put_key w9 q
   have F9:=F8.trans (f9.trans p9)
   have b79:=(f9.trans p9).blk b78 (fun e=>e)
   clear n9 f9 p9 b78 b8 R8 HOq
   generalize (w9.alloc (.cells zk 27)).setRow w9.heap.size (kyC q)=U9 at *
   have HE:∀ u,(Op.equalIn 10000 27 (.agg #[.int .i64 q.kty,.string ⟨q.kid.toArray⟩,.string ⟨q.alg.toArray⟩,.string ⟨q.n.toArray⟩,.string ⟨q.e.toArray⟩,.string ⟨q.x.toArray⟩,.string ⟨q.y.toArray⟩,.string ⟨q.sec.toArray⟩]) (.agg #[.int .i64 q.kty,.string ⟨q.kid.toArray⟩,.string ⟨q.alg.toArray⟩,.string ⟨q.n.toArray⟩,.string ⟨q.e.toArray⟩,.string ⟨q.x.toArray⟩,.string ⟨q.y.toArray⟩,.string ⟨q.sec.toArray⟩])).run Tryz.prog u=.ok true u:=key_same q
   go_wp2_with (first|(refine ldK rfl _ rfl w6.heap.size rfl b79 rfl ?_)|(go_at_call 12;((with_reducible refine (HCq.out _).mono ?_);rintro er wa ⟨rfl,fa⟩;obtain ⟨a0,a1,a2,a3,a4,a5,a6,a7⟩:=key_cells (fa.blk b79 (fun e=>e));obtain ⟨c0,c1,c2,c3,c4,c5,c6,c7⟩:=key_cells (fa.blk b9 (fun e=>e))))|(go_at_call 15;((with_reducible refine (HFx.out _ (F9.trans fa)).mono ?_);rintro er wb ⟨rfl,fb⟩)))
   go_ret
   exact ⟨rfl,F9.trans (fa.trans fb)⟩
end Go.Proofs.YtbifjamddbpcjaaGreatDoor
