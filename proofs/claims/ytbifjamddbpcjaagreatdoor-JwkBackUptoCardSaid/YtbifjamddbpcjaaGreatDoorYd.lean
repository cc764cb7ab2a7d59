/- Keys, the program's: object: a JSON object of members. -/
import Derived.Test.YtbifjamddbpcjaaGreatDoorEa
import Derived.Test.YtbifjamddbpcjaaGreatDoorRs
import Derived.Test.YtbifjamddbpcjaaGreatDoorJl
namespace Go.Proofs.YtbifjamddbpcjaaGreatDoor
set_option maxRecDepth 100000
set_option maxHeartbeats 25600000
open Go.RowKit
def memC (l:List (Bs×Bs)):List Value:=l.flatMap (fun p=>[sV p.1,sV p.2])
theorem memC_len (l:List (Bs×Bs)):(memC l).length=2*l.length:=by
 induction l with
 | nil=>rfl
 | cons a r ih=>simp only [memC,List.flatMap_cons,List.length_append,List.length_cons,List.length_nil] at ih ⊢;omega
theorem memC_get:∀ (l:List (Bs×Bs)) (m:Nat) (h:m<l.length),(memC l)[m*2]?=some (sV l[m].1)∧(memC l)[m*2+1]?=some (sV l[m].2)
 | [],m,h=>by simp at h
 | a::r,0,h=>⟨rfl,rfl⟩
 | a::r,m+1,h=>by
  obtain ⟨h1,h2⟩:=memC_get r m (by simpa using h)
  have e1:(m+1)*2=m*2+2:=by omega
  have e2:(m+1)*2+1=m*2+1+2:=by omega
  refine ⟨?_,?_⟩
  ·rw [e1];simpa [memC,List.flatMap_cons] using h1
  ·rw [e2];simpa [memC,List.flatMap_cons] using h2
theorem info_member:(Tryz.prog.info? 55).map (fun i=>(i.zero,i.size,i.bytes))=some (some (.agg #[.string ⟨#[]⟩,.string ⟨#[]⟩]),2,32):=by kernel_rfl
theorem JRows.lvs {lo:Nat} {w:World} {l:List Jv} {ks:List Bs} {lv kv:Value} (h:JRows lo w l ks lv kv):∃ a c,lv=.slice a l.length c:=by
 obtain ⟨cs,T,h1,h2,h3,h4,h5⟩:=h
 rcases h1.2 with ⟨e1,e2⟩|⟨g1,c1,u1,e1,_⟩
 ·exact ⟨none,0,by rw [e1,e2]⟩
 ·exact ⟨_,_,e1⟩
theorem JRows.kvs {lo:Nat} {w:World} {l:List Jv} {ks:List Bs} {lv kv:Value} (h:JRows lo w l ks lv kv):∃ a c,kv=.slice a ks.length c:=by
 obtain ⟨cs,T,h1,h2,h3,h4,h5⟩:=h
 rcases h2.2 with ⟨e1,e2⟩|⟨g1,c1,u1,e1,_⟩
 ·exact ⟨none,0,by rw [e1,e2]⟩
 ·exact ⟨_,_,e1⟩
theorem JRows.lts {lo:Nat} {w:World} {l:List Jv} {ks:List Bs} {lv kv:Value} (h:JRows lo w l ks lv kv):(∀ g,lv.ownBlock=some g→lo≤g∧g<w.heap.size)∧(∀ g,kv.ownBlock=some g→lo≤g∧g<w.heap.size):=by
 obtain ⟨cs,T,h1,h2,h3,h4,h5⟩:=h
 exact ⟨fun g hg=>h1.lt g hg,fun g hg=>h2.lt g hg⟩
theorem JRows.vals {lo:Nat} {w:World} {l:List Jv} {ks:List Bs} {lv kv:Value} (h:JRows lo w l ks lv kv):∃ cs,w.ownsRow lo 31 5 lv l.length cs:=by
 obtain ⟨cs,T,h1,h2,h3,h4,h5⟩:=h;exact ⟨cs,h1⟩
structure OB (w:World) (ls:List Bs) (ks:List Bs) (lv kv:Value) (u:World):Prop where
 r:Blk u w.heap.size 31 zj
 v:Blk u (w.heap.size+1) 31 #[.int .i64 6,.int .i64 0,.string ⟨#[]⟩,lv,kv]
 rows:JRows (w.heap.size+2) u (ls.map textJ) ks lv kv
 fr:Fr NoB w u
theorem OB.noB {w u u':World} {ls ks:List Bs} {lv kv:Value} (h:OB w ls ks lv kv u) (f:Fr NoB u u'):OB w ls ks lv kv u':=
 ⟨f.blk h.r (fun e=>e),f.blk h.v (fun e=>e),h.rows.fr f (fun _ _ e=>e),h.fr.trans f⟩
theorem textJ_at (S:Nat→Prop) (w:World) (t:Bs) (ht:t.length≤big):RAt S w (textJ t) (.agg #[.int .i64 4,.int .i64 0,.string ⟨t.toArray⟩,.slice none 0 0,.slice none 0 0]):=
 jat_leaf S w 4 0 t (by unfold IntOk;omega) (by unfold IntOk;omega) ht none none 0 0
theorem OB.start (w:World):OB w [] [] (.slice none 0 0) (.slice none 0 0) ((w.alloc (.cells zj 31)).alloc (.cells #[.int .i64 6,.int .i64 0,.string ⟨#[]⟩,.slice none 0 0,.slice none 0 0] 31)):=by
 refine ⟨(Blk.new w 31 zj).alloc _,?_,JRows.nil _ _,((Fr.refl _ _).alloc _).alloc _⟩
 have:=Blk.new (w.alloc (.cells zj 31)) 31 #[.int .i64 6,.int .i64 0,.string ⟨#[]⟩,.slice none 0 0,.slice none 0 0]
 have h3:(w.alloc (.cells zj 31)).heap.size=w.heap.size+1:=by simp
 rwa [h3] at this
theorem one_obj (lv kv:Value) (h1:∃ a n c,lv=.slice a n c) (h2:∃ a n c,kv=.slice a n c):(#[Value.int .i64 6,.int .i64 0,.string ⟨#[]⟩,lv,kv].all (·.oneCell'))=true:=by
 obtain ⟨a,n,c,rfl⟩:=h1
 obtain ⟨b,m,d,rfl⟩:=h2
 exact one_json 6 0 ⟨#[]⟩ a b n c m d
theorem OB.key {w u w1:World} {ls ks:List Bs} {lv kv:Value} (h:OB w ls ks lv kv u) (key:Bs) (g cap:Nat) (o:Obj)
  (hown:w1.ownsRow (w.heap.size+2) 9 1 (.slice (some ⟨g,0,none⟩) (ks.length+1) cap) (ks.length+1) (ks.map sV++[sV key])) (hgr:(u.alloc o).grownBy w1 kv.ownBlock) (hat:kv.ownBlock=some g∨g=u.heap.size+1) :
  Blk w1 (w.heap.size+1) 31 #[.int .i64 6,.int .i64 0,.string ⟨#[]⟩,lv,kv]∧OB w ls (ks++[key]) lv (.slice (some ⟨g,0,none⟩) (ks.length+1) cap) (w1.setCell ⟨w.heap.size+1,4,none⟩ (.slice (some ⟨g,0,none⟩) (ks.length+1) cap)):=by
 have ha:Fr NoB u (u.alloc o):=(Fr.refl _ _).alloc _
 have hk0:∀ x,kv.ownBlock=some x→w.heap.size+2≤x:=fun x hx=>(h.rows.keys.lt x hx).1
 have hrow:=(h.rows.fr ha (fun _ _ e=>e)).key key g cap hown hgr (by simpa using hat)
 have hF:Fr (fun x=>kv.ownBlock=some x) u w1:=(Fr.refl _ u |>.alloc o).grown hgr (fun j hj _=>hj)
 have hn:∀ x,x<w.heap.size+2→¬ (kv.ownBlock=some x):=fun x hx e=>by have:=hk0 x e;omega
 have hS:Fr (Only (w.heap.size+1)) w1 (w1.setCell ⟨w.heap.size+1,4,none⟩ (.slice (some ⟨g,0,none⟩) (ks.length+1) cap)):=(Fr.refl _ w1).only _
 have hv1:=hF.blk h.v (hn _ (by omega))
 refine ⟨hv1,hS.blk (hF.blk h.r (hn _ (by omega))) (fun e=>by have e':w.heap.size=w.heap.size+1:=e;omega),?_,hrow.fr hS (fun x hx e=>by have e':x=w.heap.size+1:=e;omega),?_⟩
 ·have:=hv1.set_ 4 (.slice (some ⟨g,0,none⟩) (ks.length+1) cap)
  simpa using this
 ·exact ((h.fr.alloc o).grown hgr (fun j hj hlt=>absurd hlt (by have:=hk0 j hj;omega))).setCell_new (p:=⟨w.heap.size+1,4,none⟩) (by simp) _
theorem OB.item {w u w1:World} {ls ks:List Bs} {lv kv:Value} (h:OB w ls ks lv kv u) (t:Bs) (ht:t.length≤big) (g cap:Nat) (o:Obj) {cs:List Value} (hcs:(u.alloc o).ownsRow (w.heap.size+2) 31 5 lv ls.length cs)
  (hown:w1.ownsRow (w.heap.size+2) 31 5 (.slice (some ⟨g,0,none⟩) (ls.length+1) cap) (ls.length+1) (cs++[.int .i64 4,.int .i64 0,.string ⟨t.toArray⟩,.slice none 0 0,.slice none 0 0])) (hgr:(u.alloc o).grownBy w1 lv.ownBlock) (hat:lv.ownBlock=some g∨g=u.heap.size+1) :
  Blk w1 (w.heap.size+1) 31 #[.int .i64 6,.int .i64 0,.string ⟨#[]⟩,lv,kv]∧OB w (ls++[t]) ks (.slice (some ⟨g,0,none⟩) (ls.length+1) cap) kv (w1.setCell ⟨w.heap.size+1,3,none⟩ (.slice (some ⟨g,0,none⟩) (ls.length+1) cap)):=by
 have ha:Fr NoB u (u.alloc o):=(Fr.refl _ _).alloc _
 obtain ⟨cs0,hcs0⟩:=h.rows.vals
 rw [List.length_map] at hcs0
 have hk0:∀ x,lv.ownBlock=some x→w.heap.size+2≤x∧x<u.heap.size:=fun x hx=>hcs0.lt x hx
 have hk1:∀ x,kv.ownBlock=some x→x<u.heap.size:=fun x hx=>(h.rows.keys.lt x hx).2
 have hlo:=h.v.lt
 have hrow:=(h.rows.fr ha (fun _ _ e=>e)).item (lo2:=u.heap.size) (hi:=u.heap.size) (j:=textJ t) (textJ_at _ _ t ht) (by omega) (by simp) (fun x hx=>(hk0 x hx).2) hk1 g cap (by rw [List.length_map];exact hcs) (by rw [List.length_map];exact hown) hgr (by simpa using hat)
 rw [List.length_map] at hrow
 have hF:Fr (fun x=>lv.ownBlock=some x) u w1:=(Fr.refl _ u |>.alloc o).grown hgr (fun j hj _=>hj)
 have hn:∀ x,x<w.heap.size+2→¬ (lv.ownBlock=some x):=fun x hx e=>by have:=(hk0 x e).1;omega
 have hS:Fr (Only (w.heap.size+1)) w1 (w1.setCell ⟨w.heap.size+1,3,none⟩ (.slice (some ⟨g,0,none⟩) (ls.length+1) cap)):=(Fr.refl _ w1).only _
 have hv1:=hF.blk h.v (hn _ (by omega))
 refine ⟨hv1,hS.blk (hF.blk h.r (hn _ (by omega))) (fun e=>by have e':w.heap.size=w.heap.size+1:=e;omega),?_,?_,?_⟩
 ·have:=hv1.set_ 3 (.slice (some ⟨g,0,none⟩) (ls.length+1) cap)
  simpa using this
 ·rw [List.map_append]
  exact hrow.fr hS (fun x hx e=>by have e':x=w.heap.size+1:=e;omega)
 ·exact ((h.fr.alloc o).grown hgr (fun j hj hlt=>absurd hlt (by have:=(hk0 j hj).1;omega))).setCell_new (p:=⟨w.heap.size+1,3,none⟩) (by simp) _
theorem object_any (l:List (Bs×Bs)) (v:Value) (w:World) (hm:InMem (All w) w v l.length (memC l)) (hl:l.length≤1000) (hs:∀ p∈l,p.1.length≤big∧p.2.length≤big) :
  Calls Tryz.prog 26 #[v] w fun e w'=>∃ u,e=.returned u∧RAt (Rng w.heap.size w'.heap.size) w' (objJ l) u∧Fr NoB w w':=by
 obtain ⟨i1,hj0,hy0,hy1,hy2⟩:=info_parts info_json
 obtain ⟨i0,hi0,hz0,hz1,hz2⟩:=info_parts info_str
 obtain ⟨av,cv,rfl⟩:=hm.sl
 have HM:=Lib.hid hm
 have HSZ:=Lib.hid hs
 clear hm hs
 have st:=OB.start w
 go_enter Tryz.func26,Tryz.ntmps26
 go_upto_region 2 with fail
 generalize (w.alloc (.cells zj 31)).alloc (.cells #[.int .i64 6,.int .i64 0,.string ⟨#[]⟩,.slice none 0 0,.slice none 0 0] 31)=W at *
 go_wp2_with fail
 go_loopw [9] (fun v9 wr=>∃ (m:Nat) (lv kv:Value),m≤l.length∧v9=.int .i64 m∧OB w ((l.take m).map (fun p=>p.2)) ((l.take m).map (fun p=>p.1)) lv kv wr) (fun v _=>l.length - (intOf v).toNat)
 case atStart=>exact ⟨0,_,_,Nat.zero_le _,rfl,by simpa using st⟩
 case round=>
  clear st
  obtain ⟨m,lv,kv,hm,rfl,hob⟩:=hrel
  have hgl:w.heap.size+2≤wr.heap.size:=by have:=hob.v.lt;omega
  by_cases hlt:m<l.length
  ·have k1:(0:Int)≤m:=by omega
   have k2:(m:Int)<l.length:=by omega
   obtain ⟨ga,oa,rfl,hcell⟩:=HM.out.at_ hob.fr (by omega)
   obtain ⟨c0,c1⟩:=memC_get l m hlt
   have e0:=hcell _ _ c0
   have e1:=hcell _ _ c1
   have e1':wr.cell? ⟨ga,oa+m*2+1,none⟩=some (sV l[m].2):=e1
   obtain ⟨z0,z1⟩:=HSZ.out l[m] (List.getElem_mem hlt)
   have HT1:Hid ((l.take (m+1)).map (fun p=>p.1)=(l.take m).map (fun p=>p.1)++[l[m].1]):=Lib.hid (by rw [List.take_succ_eq_append_getElem hlt,List.map_append];rfl)
   have HT2:Hid ((l.take (m+1)).map (fun p=>p.2)=(l.take m).map (fun p=>p.2)++[l[m].2]):=Lib.hid (by rw [List.take_succ_eq_append_getElem hlt,List.map_append];rfl)
   have hml:((l.take m).map (fun p=>p.1)).length=m:=by rw [List.length_map,List.length_take];omega
   have hml2:((l.take m).map (fun p=>p.2)).length=m:=by rw [List.length_map,List.length_take];omega
   clear hcell c0 c1 e1
   generalize l[m]=p at *
   obtain ⟨nm,tx⟩:=p
   simp only at z0 z1
   generalize (l.take m).map (fun p=>p.1)=KS at *
   generalize (l.take m).map (fun p=>p.2)=LS at *
   subst hml
   have HML2:=Lib.hid hml2
   clear hml2
   go_upto_region 5 with fail
   have b1:=Blk.new wr 55 #[.string ⟨nm.toArray⟩,.string ⟨tx.toArray⟩]
   have f1:Fr NoB wr (wr.alloc (.cells #[.string ⟨nm.toArray⟩,.string ⟨tx.toArray⟩] 55)):=(Fr.refl _ _).alloc _
   have ob1:=hob.noB f1
   have HS1:Hid ((wr.alloc (.cells #[.string ⟨nm.toArray⟩,.string ⟨tx.toArray⟩] 55)).heap.size=wr.heap.size+1):=Lib.hid (by simp)
   have hk0:∀ x,kv.ownBlock=some x→x<wr.heap.size:=fun x hx=>(hob.rows.keys.lt x hx).2
   clear e0 e1' f1 hob
   generalize wr.alloc (.cells #[.string ⟨nm.toArray⟩,.string ⟨tx.toArray⟩] 55)=U at *
   have hgu:w.heap.size+2≤U.heap.size:=by have:=HS1.out;omega
   have ck:=ob1.rows.keys
   have m0:U.cell? ⟨wr.heap.size,0,none⟩=some (sV nm):=(b1.cell 0).trans rfl
   have v4:U.cell? ⟨w.heap.size+1,4,none⟩=some kv:=(ob1.v.cell 4).trans rfl
   have ckA:=((Fr.refl NoB U).alloc (.cells #[sV nm] 9)).row ck (fun _ _ e=>e)
   go_upto_region 6 with (at_builtin;go_loud (refine wpList_append_lies _ rfl _ _ 29 rfl (w.heap.size+2) 9 i0 (.string ⟨#[]⟩) 1 16 Tryz.underlying29 hi0 hz0 hz1 hz2 rfl (by decide) kv KS.length (KS.map sV) rfl ckA ⟨U.heap.size,0,none⟩ 1 1 [sV nm] rfl rfl (World.news_of_block (cs := #[sV nm]) (t:=9) (fr:=(0,0)) (heap_alloc_new U _)) (by intro u hu;rw [List.mem_singleton] at hu;subst hu;rfl) (by omega) (by unfold maxLen;omega) (by omega) (by simp;omega) (U.heap.size+1) (by simp) ?_;intro gk capk wk hownk hgrk hatk hgltk;obtain ⟨bv,st2⟩:=ob1.key nm gk capk _ hownk hgrk hatk;have cv4:wk.cell? ⟨w.heap.size+1,4,none⟩=some kv:=(bv.cell 4).trans rfl;have zv4:=bv.frozen 4))
   have b2:Blk (wk.setCell ⟨w.heap.size+1,4,none⟩ (.slice (some ⟨gk,0,none⟩) (KS.length+1) capk)) wr.heap.size 55 #[.string ⟨nm.toArray⟩,.string ⟨tx.toArray⟩]:=
    ((Fr.refl (Only (w.heap.size+1)) wk).only _).blk (((Fr.refl (fun x=>kv.ownBlock=some x) U).alloc (.cells #[sV nm] 9)).grown hgrk (fun j hj _=>hj) |>.blk b1 (fun e=>by have:=hk0 _ e;omega)) (fun e=>by have e':wr.heap.size=w.heap.size+1:=e;omega)
   clear ck ckA hownk hgrk hatk hgltk cv4 zv4 bv b1 ob1 v4 m0 hgu HS1
   generalize wk.setCell ⟨w.heap.size+1,4,none⟩ (.slice (some ⟨gk,0,none⟩) (KS.length+1) capk)=V2 at *
   generalize Value.slice (some ⟨gk,0,none⟩) (KS.length+1) capk=kv2 at *
   have hgu:w.heap.size+2≤V2.heap.size:=by have:=st2.v.lt;omega
   obtain ⟨cs,ck⟩:=st2.rows.vals
   rw [List.length_map] at ck
   have m1:V2.cell? ⟨wr.heap.size,1,none⟩=some (sV tx):=(b2.cell 1).trans rfl
   have v3:V2.cell? ⟨w.heap.size+1,3,none⟩=some lv:=(st2.v.cell 3).trans rfl
   have ckA:=((Fr.refl NoB V2).alloc (.cells #[.int .i64 4,.int .i64 0,.string ⟨tx.toArray⟩,.slice none 0 0,.slice none 0 0] 31)).row ck (fun _ _ e=>e)
   go_wp2_with (at_builtin;go_loud (refine wpList_append_lies _ rfl _ _ 28 rfl (w.heap.size+2) 31 i1 (jV 0 0 [] (.slice none 0 0) (.slice none 0 0)) 5 80 Tryz.underlying28 hj0 hy0 hy1 hy2 rfl (by decide) lv LS.length cs rfl ckA ⟨V2.heap.size,0,none⟩ 1 1 [.int .i64 4,.int .i64 0,.string ⟨tx.toArray⟩,.slice none 0 0,.slice none 0 0] rfl rfl (World.news_of_block (cs := #[.int .i64 4,.int .i64 0,.string ⟨tx.toArray⟩,.slice none 0 0,.slice none 0 0]) (t:=31) (fr:=(0,0)) (heap_alloc_new V2 _)) (textJ_at (All w) w tx z1).one (by omega) (by have:=HML2.out;unfold maxLen;omega) (by have:=HML2.out;omega) (by simp;omega) (V2.heap.size+1) (by simp) ?_;intro g cap wl hown hgr hat hglt;obtain ⟨bv3,st3⟩:=st2.item tx z1 g cap _ ckA hown hgr hat;have cv3:wl.cell? ⟨w.heap.size+1,3,none⟩=some lv:=(bv3.cell 3).trans rfl;have zv3:=bv3.frozen 3))
   go_roundw
   case rel=>exact ⟨KS.length+1,_,_,by omega,by simp,by rw [HT1.out,HT2.out];exact st3⟩
   case measure=>simp [intOf];omega
  ·obtain rfl:m=l.length:=by omega
   have hone:=one_obj lv kv (by obtain ⟨a,c,h⟩:=hob.rows.lvs;exact ⟨a,_,c,h⟩) (by obtain ⟨a,c,h⟩:=hob.rows.kvs;exact ⟨a,_,c,h⟩)
   rw [List.take_length] at hob
   have hv:=hob.v
   have hr:=hob.r
   have HOB:=Lib.hid hob
   clear hob
   go_wp2_with (first|(refine ldJ rfl _ rfl (w.heap.size+1) rfl hv rfl ?_)|(refine wpList_store_row rfl 31 _ _ rfl w.heap.size #[.int .i64 6,.int .i64 0,.string ⟨#[]⟩,lv,kv] rfl rfl 31 zj hr size_json rfl hone ?_))
   have fS:Fr (Only w.heap.size) wr (wr.setRow w.heap.size #[.int .i64 6,.int .i64 0,.string ⟨#[]⟩,lv,kv]):=Fr.rowO _ _ _
   have ht:=((HOB.out.rows.fr fS (fun g hg e=>by have e':g=w.heap.size:=e;omega)).top (hi:=w.heap.size+2) 6 (Nat.le_refl _) (by unfold IntOk;omega) (by simp;unfold big;omega) ⟨by simp;unfold big;omega,fun s hs=>by obtain ⟨p,hp,rfl⟩:=List.mem_map.1 hs;exact (HSZ.out p hp).1⟩).at_
   rw [List.map_map] at ht
   exact bodyPost_ret (v:=jV 6 0 [] lv kv) (json_back rfl _ _ w.heap.size _ _ _ _ _ rfl (hr.setRow _)) rfl ⟨_,rfl,RAt.mono (fun g hg=>⟨by have:=hg.1;omega,hg.2⟩) _ _ ht,HOB.out.fr.setRow w.heap.size _ (Or.inl (Nat.le_refl _))⟩
theorem Fr.celK {w u:World} (f:Fr NoB w u) {p:Addr} {v:Value} (h:w.cell? p=some v):u.cell? p=some v:=by
 rw [f.cell (World.block_lt_of_cell? w p h) (fun e=>e)];exact h
def okC (c:UInt8):Bool:=decide (33≤c.toNat)&&decide (c.toNat≤126)
theorem word_no {s:Bs} {m:Nat} {c:UInt8} (h:s[m]?=some c) (hc:okC c=false):wordK s=false:=by
 unfold wordK
 rw [Bool.and_eq_false_iff]
 refine Or.inl ?_
 rw [List.all_eq_false]
 exact ⟨c,List.mem_of_getElem? h,by unfold okC at hc;rw [hc];simp⟩
theorem word_yes {s:Bs} (h:∀ (j:Nat) c,j<s.length→s[j]?=some c→okC c=true):wordK s=decide (s.length≤64):=by
 unfold wordK
 have:(s.all (fun c=>decide (33≤c.toNat)&&decide (c.toNat≤126)))=true:=by
  rw [List.all_eq_true]
  intro c hc
  obtain ⟨j,hj,rfl⟩:=List.mem_iff_getElem.1 hc
  exact h j _ hj (List.getElem?_eq_getElem hj)
 rw [this,Bool.true_and]
theorem word_any (s:Bs) (w:World) (hl:s.length≤4398046511104):Calls Tryz.prog 35 #[.string ⟨s.toArray⟩] w fun e w'=>e=.returned (.bool (wordK s))∧w'=w:=by
 obtain ⟨res,hres⟩:∃ r,r=wordK s:=⟨_,rfl⟩
 rw [← hres]
 have HRS:=Lib.hid hres
 clear hres
 go_enter Tryz.func35,Tryz.ntmps35
 go_wp2_with fail
 go_loopw [6] (fun v wr=>∃ m:Nat,m≤s.length∧v=.int .i64 m∧(∀ (j:Nat) c,j<m→s[j]?=some c→okC c=true)∧wr=w) (fun v _=>s.length - (intOf v).toNat)
 case atStart=>exact ⟨0,Nat.zero_le _,rfl,fun j c h=>by omega,rfl⟩
 case round=>
  obtain ⟨m,hm,rfl,hok,rfl⟩:=hrel
  have hsz:(⟨s.toArray⟩:ByteArray).size=s.length:=rfl
  by_cases hlt:m<s.length
  ·have k1:(0:Int)≤m:=by omega
   have k2:(m:Int)<s.length:=by omega
   have hg:=get_list s m hlt
   have HA:=Lib.hid (List.getElem?_eq_getElem hlt)
   have HOK:=Lib.hid hok
   clear hok
   generalize s[m]=c at *
   have hc:=c.toNat_lt
   by_cases h1:(c.toNat:Int)<33
   ·go_wp2_with fail
    go_ret
    exact ⟨by rw [HRS.out,word_no HA.out (by unfold okC;simp;omega)];rfl,rfl⟩
   ·by_cases h2:(126:Int)<c.toNat
    ·go_wp2_with fail
     go_ret
     exact ⟨by rw [HRS.out,word_no HA.out (by unfold okC;simp;omega)];rfl,rfl⟩
    ·go_wp2_with fail
     go_roundw
     case rel=>
      refine ⟨m+1,by omega,by simp,fun j x hj hx => ?_,trivial⟩
      by_cases hjm:j=m
      ·subst hjm
       rw [HA.out] at hx
       cases hx
       unfold okC;simp;omega
      ·exact HOK.out j x (by omega) hx
     case measure=>simp [intOf];omega
  ·obtain rfl:m=s.length:=by omega
   have HW:=Lib.hid (word_yes hok)
   clear hok
   by_cases h6:(s.length:Int)≤64
   ·go_wp2_with fail
    go_ret
    exact ⟨by rw [HRS.out,HW.out];simp;omega,rfl⟩
   ·go_wp2_with fail
    go_ret
    exact ⟨by rw [HRS.out,HW.out];simp;omega,rfl⟩
theorem and1_u8 (a:Nat) (ha:a<256):bits .and .u8 (a:Int) 1=((a % 2:Nat):Int):=by
 have h1:(BitVec.ofInt 8 (a:Int)).toNat=a:=by
  rw [BitVec.ofInt_natCast,BitVec.toNat_ofNat];exact Nat.mod_eq_of_lt (by omega)
 have h2:(BitVec.ofInt 8 (1:Int)).toNat=1:=by decide
 show IntKind.u8.wrap ((BitVec.ofInt 8 (a:Int) &&& BitVec.ofInt 8 (1:Int)).toNat:Int)=_
 rw [BitVec.toNat_and,h1,h2,Nat.and_one_is_mod,IntKind.wrap_u8]
 omega
theorem odd_any (s:Bs) (w:World) (hl:s.length≤4398046511104):Calls Tryz.prog 116 #[.string ⟨s.toArray⟩] w fun e w'=>e=.returned (.bool (oddP s))∧w'=w:=by
 obtain ⟨res,hres⟩:∃ r,r=oddP s:=⟨_,rfl⟩
 rw [← hres]
 have hsz:(⟨s.toArray⟩:ByteArray).size=s.length:=rfl
 cases s with
 | nil=>
  have HRS:=Lib.hid hres
  clear hres
  go_enter Tryz.func116,Tryz.ntmps116
  go_wp2_with fail
  go_ret
  exact ⟨by rw [HRS.out];rfl,rfl⟩
 | cons c0 r=>
  obtain ⟨s,hs⟩:∃ s,s=c0::r:=⟨_,rfl⟩
  rw [← hs] at hl hsz hres ⊢
  have hp0:0<s.length:=by rw [hs];simp
  have h0:=get_list s 0 hp0
  have hlt:s.length - 1<s.length:=by omega
  obtain ⟨d,hd⟩:∃ d,d=s[s.length - 1]:=⟨_,rfl⟩
  obtain ⟨x,hx⟩:∃ x,x=s[0]:=⟨_,rfl⟩
  have hlast:=get_list s (s.length - 1) hlt
  rw [← hd] at hlast
  rw [← hx] at h0
  have hres2:res=(x != 0&&(d.toNat % 2==1)):=by
   have h1:s[s.length - 1]?=some d:=by rw [List.getElem?_eq_getElem hlt,hd]
   have h2:x=c0:=by subst hs;exact hx
   rw [hres,h2,hs,oddP,← hs,List.getLast?_eq_getElem?,h1];rfl
  have hne:s.isEmpty=false:=by rw [hs];rfl
  clear hres hd hx hs
  have HRS:=Lib.hid hres2
  clear hres2
  have hc:=x.toNat_lt
  have hdl:=d.toNat_lt
  have k1:(1:Int)≤s.length:=by omega
  have k2:(0:Int)≤(s.length:Int) - 1:=by omega
  have k3:((s.length:Int) - 1).toNat=s.length - 1:=by omega
  have ha:=and1_u8 d.toNat hdl
  by_cases hx0:x=0
  ·subst hx0
   go_enter Tryz.func116,Tryz.ntmps116
   go_wp2_with fail
   all_goals (go_ret;exact ⟨by rw [HRS.out];first|rfl|simp,rfl⟩)
  ·have hx1:x.toNat≠0:=fun e=>hx0 (UInt8.toNat_inj.1 e)
   have hx2:((x.toNat:Int) != 0)=(x != 0):=by rw [bne_iff_ne.2 hx0,bne_iff_ne.2 (by omega)]
   rcases Nat.mod_two_eq_zero_or_one d.toNat with hp|hp
   ·rw [hp] at ha HRS
    go_enter Tryz.func116,Tryz.ntmps116
    go_wp2_with fail
    all_goals (go_ret;exact ⟨by rw [HRS.out];first|rfl|simp,rfl⟩)
   ·rw [hp] at ha HRS
    go_enter Tryz.func116,Tryz.ntmps116
    go_wp2_with fail
    all_goals (go_ret;exact ⟨by rw [HRS.out];first|rfl|(simp;done)|(simp;exact hx2),rfl⟩)
end Go.Proofs.YtbifjamddbpcjaaGreatDoor
