/- JwkSets: the walk. -/
import Derived.Test.YtbifjamddbpcjaaGreatDoorTa
namespace Go.Proofs.YtbifjamddbpcjaaGreatDoor
set_option maxRecDepth 100000
set_option maxHeartbeats 25600000
open Go.RowKit
theorem ksame_any (l:List Ky) (va vb:Value) (w:World) (hl:l.length≤1000) (ha:InMem (All w) w va l.length (kyCs l)) (hb:InMem (All w) w vb l.length (kyCs l)) :
  Calls Tryz.prog 20 #[va,vb] w fun e w'=>e=.returned (.bool true)∧Fr NoB w w':=by
 obtain ⟨aa,ca,rfl⟩:=ha.sl
 obtain ⟨ab,cb,rfl⟩:=hb.sl
 have HA:=Lib.hid (And.intro ha hb)
 clear ha hb
 go_enter Tryz.func20,Tryz.ntmps20
 go_wp2_with fail
 go_loopw [5] (fun v wr=>∃ m:Nat,m≤l.length∧v=.int .i64 m∧Fr NoB w wr) (fun v _=>l.length - (intOf v).toNat)
 case atStart=>exact ⟨0,Nat.zero_le _,rfl,Fr.refl _ _⟩
 case round=>
  obtain ⟨m,hm,rfl,hf⟩:=hrel
  by_cases hlt:m<l.length
  ·obtain ⟨ga,oa,rfl,ha⟩:=HA.out.1.at_ hf (by omega)
   obtain ⟨gb,ob,rfl,hb⟩:=HA.out.2.at_ hf (by omega)
   have ca:∀ (j:Nat) u,j<8→(kyC l[m])[j]?=some u→wr.cell? ⟨ga,oa+(m*8+j),none⟩=some u:=fun j u hj hu=>ha _ _ ((kyCs_get l m hlt j hj).trans hu)
   have cb:∀ (j:Nat) u,j<8→(kyC l[m])[j]?=some u→wr.cell? ⟨gb,ob+(m*8+j),none⟩=some u:=fun j u hj hu=>hb _ _ ((kyCs_get l m hlt j hj).trans hu)
   generalize l[m]=q at ca cb
   clear ha hb
   have HE:=key_same q
   obtain ⟨kty,kid,alg,n,e,x,y,sec⟩:=q
   have a0:wr.cell? ⟨ga,oa+m*8,none⟩=some (.int .i64 kty):=ca 0 _ (by omega) rfl
   have a1:wr.cell? ⟨ga,oa+m*8+1,none⟩=some (.string ⟨kid.toArray⟩):=ca 1 _ (by omega) rfl
   have a2:wr.cell? ⟨ga,oa+m*8+2,none⟩=some (.string ⟨alg.toArray⟩):=ca 2 _ (by omega) rfl
   have a3:wr.cell? ⟨ga,oa+m*8+3,none⟩=some (.string ⟨n.toArray⟩):=ca 3 _ (by omega) rfl
   have a4:wr.cell? ⟨ga,oa+m*8+4,none⟩=some (.string ⟨e.toArray⟩):=ca 4 _ (by omega) rfl
   have a5:wr.cell? ⟨ga,oa+m*8+5,none⟩=some (.string ⟨x.toArray⟩):=ca 5 _ (by omega) rfl
   have a6:wr.cell? ⟨ga,oa+m*8+6,none⟩=some (.string ⟨y.toArray⟩):=ca 6 _ (by omega) rfl
   have a7:wr.cell? ⟨ga,oa+m*8+7,none⟩=some (.string ⟨sec.toArray⟩):=ca 7 _ (by omega) rfl
   have b0:wr.cell? ⟨gb,ob+m*8,none⟩=some (.int .i64 kty):=cb 0 _ (by omega) rfl
   have b1:wr.cell? ⟨gb,ob+m*8+1,none⟩=some (.string ⟨kid.toArray⟩):=cb 1 _ (by omega) rfl
   have b2:wr.cell? ⟨gb,ob+m*8+2,none⟩=some (.string ⟨alg.toArray⟩):=cb 2 _ (by omega) rfl
   have b3:wr.cell? ⟨gb,ob+m*8+3,none⟩=some (.string ⟨n.toArray⟩):=cb 3 _ (by omega) rfl
   have b4:wr.cell? ⟨gb,ob+m*8+4,none⟩=some (.string ⟨e.toArray⟩):=cb 4 _ (by omega) rfl
   have b5:wr.cell? ⟨gb,ob+m*8+5,none⟩=some (.string ⟨x.toArray⟩):=cb 5 _ (by omega) rfl
   have b6:wr.cell? ⟨gb,ob+m*8+6,none⟩=some (.string ⟨y.toArray⟩):=cb 6 _ (by omega) rfl
   have b7:wr.cell? ⟨gb,ob+m*8+7,none⟩=some (.string ⟨sec.toArray⟩):=cb 7 _ (by omega) rfl
   clear ca cb
   have i1:(0:Int)≤m:=by omega
   have i2:(m:Int)<l.length:=by omega
   go_wp2_with fail
   go_quiet (fail)
   go_wp2_with fail
   go_roundw
   case rel=>exact ⟨m+1,by omega,by simp,hf.drewN _⟩
   case measure=>simp [intOf];omega
  ·obtain rfl:m=l.length:=by omega
   go_wp2_with fail
   go_ret
   exact ⟨rfl,hf⟩
theorem inmem_zero {S:Nat→Prop} {w:World} {g n c:Nat} {cs:List Value} (hg:S g) (h:∀ (i:Nat) u,cs[i]?=some u→w.cell? ⟨g,i,none⟩=some u):InMem S w (.slice (some ⟨g,0,none⟩) n c) n cs:=
 Or.inr ⟨g,0,c,rfl,hg,fun i u hu=>by rw [Nat.zero_add];exact h i u hu⟩
structure VS (w:World) (ls:List Jv) (lv:Value) (u:World):Prop where
 v:Blk u w.heap.size 31 #[.int .i64 5,.int .i64 0,.string ⟨#[]⟩,lv,.slice none 0 0]
 rows:JRows (w.heap.size+1) u ls [] lv (.slice none 0 0)
 fr:Fr NoB w u
theorem VS.noB {w u u':World} {ls:List Jv} {lv:Value} (h:VS w ls lv u) (f:Fr NoB u u'):VS w ls lv u':=
 ⟨f.blk h.v (fun e=>e),h.rows.fr f (fun _ _ e=>e),h.fr.trans f⟩
theorem VS.start (w:World):VS w [] (.slice none 0 0) ((w.alloc (.cells zj 31)).setRow w.heap.size #[.int .i64 5,.int .i64 0,.string ⟨#[]⟩,.slice none 0 0,.slice none 0 0]):=
 ⟨(Blk.new w 31 zj).setRow _,JRows.nil _ _,((Fr.refl NoB w).alloc _).setRow w.heap.size _ (Or.inl (Nat.le_refl _))⟩
theorem VS.item {w u w1:World} {ls:List Jv} {lv:Value} (h:VS w ls lv u) {j:Jv} {x0 x1 x2 x3 x4:Value} {lo2 hi:Nat} (hj:RAt (Rng lo2 hi) u j (.agg #[x0,x1,x2,x3,x4])) (hlo:w.heap.size+1≤lo2) (hhi:hi≤u.heap.size) (hlv:∀ g,lv.ownBlock=some g→g<lo2) (g cap:Nat) (o:Obj) {cs:List Value}
  (hcs:(u.alloc o).ownsRow (w.heap.size+1) 31 5 lv ls.length cs)
  (hown:w1.ownsRow (w.heap.size+1) 31 5 (.slice (some ⟨g,0,none⟩) (ls.length+1) cap) (ls.length+1) (cs++[x0,x1,x2,x3,x4])) (hgr:(u.alloc o).grownBy w1 lv.ownBlock) (hat:lv.ownBlock=some g∨g=u.heap.size+1) :
  Blk w1 w.heap.size 31 #[.int .i64 5,.int .i64 0,.string ⟨#[]⟩,lv,.slice none 0 0]∧VS w (ls++[j]) (.slice (some ⟨g,0,none⟩) (ls.length+1) cap) (w1.setCell ⟨w.heap.size,3,none⟩ (.slice (some ⟨g,0,none⟩) (ls.length+1) cap)):=by
 have ha:Fr NoB u (u.alloc o):=(Fr.refl _ _).alloc _
 obtain ⟨cs0,hcs0⟩:=h.rows.vals
 have hk0:∀ x,lv.ownBlock=some x→w.heap.size+1≤x∧x<u.heap.size:=fun x hx=>hcs0.lt x hx
 have hlo':=h.v.lt
 have hsz:(u.alloc o).heap.size=u.heap.size+1:=by simp
 have hrow:=(h.rows.fr ha (fun _ _ e=>e)).item (lo2:=lo2) (hi:=hi) (j:=j) (RAt.fr (fun g hg=>ha.block g (Nat.lt_of_lt_of_le hg.2 hhi) (fun e=>e)) _ _ hj) hlo (by omega) hlv (fun x hx=>by simp [Value.ownBlock] at hx) g cap hcs hown hgr (by rw [hsz];exact hat)
 have hF:Fr (fun x=>lv.ownBlock=some x) u w1:=(Fr.refl _ u |>.alloc o).grown hgr (fun j hj _=>hj)
 have hn:∀ x,x<w.heap.size+1→¬ (lv.ownBlock=some x):=fun x hx e=>by have:=(hk0 x e).1;omega
 have hS:Fr (Only w.heap.size) w1 (w1.setCell ⟨w.heap.size,3,none⟩ (.slice (some ⟨g,0,none⟩) (ls.length+1) cap)):=(Fr.refl _ w1).only _
 have hv1:=hF.blk h.v (hn _ (by omega))
 refine ⟨hv1,?_,hrow.fr hS (fun x hx e=>by have e':x=w.heap.size:=e;omega),?_⟩
 ·have:=hv1.set_ 3 (.slice (some ⟨g,0,none⟩) (ls.length+1) cap)
  simpa using this
 ·exact ((h.fr.alloc o).grown hgr (fun j hj hlt=>absurd hlt (by have:=(hk0 j hj).1;omega))).setCell_new (p:=⟨w.heap.size,3,none⟩) (by simp) _
theorem many_at {w:World} {l:List Ky} {lv:Value} (g gk:Nat) (ha:RAt (All w) w (.mk 5 0 [] (l.map valK) []) (.agg #[.int .i64 5,.int .i64 0,.string ⟨#[]⟩,lv,.slice none 0 0])) (hg:Blk w g 31 #[.int .i64 0,.int .i64 0,.string ⟨#[]⟩,.slice none 0 0,.slice none 0 0,.int .i64 5,.int .i64 0,.string ⟨#[]⟩,lv,.slice none 0 0]) (hk:Blk w gk 9 #[.string ⟨#[120]⟩,.string ⟨#[107,101,121,115]⟩]) :
  RAt (All w) w (manyJ l) (jV 6 0 [] (.slice (some ⟨g,0,none⟩) 2 2) (.slice (some ⟨gk,0,none⟩) 2 2)):=by
 rw [manyJ]
 simp only [RAt]
 refine ⟨_,_,rfl,by unfold IntOk;omega,by unfold IntOk;omega,by simp,⟨Or.inr ⟨gk,0,2,rfl,hk.lt,?_⟩,by unfold big;simp,?_⟩,by unfold big;simp,[.int .i64 0,.int .i64 0,.string ⟨#[]⟩,.slice none 0 0,.slice none 0 0,.int .i64 5,.int .i64 0,.string ⟨#[]⟩,lv,.slice none 0 0],?_,Or.inr ⟨g,0,2,rfl,hg.lt,?_⟩⟩
 ·intro i x hxi
  have hx2:([.string ⟨#[120]⟩,.string ⟨#[107,101,121,115]⟩]:List Value)[i]?=some x:=hxi
  rw [Nat.zero_add,hk.cell]
  simpa using hx2
 ·intro s hs
  simp only [List.mem_cons,List.not_mem_nil,or_false] at hs
  unfold big
  rcases hs with rfl|rfl
  ·exact Nat.le_of_ble_eq_true rfl
  ·exact Nat.le_of_ble_eq_true rfl
 ·simp only [RCells]
  exact ⟨_,_,_,_,_,_,rfl,nul_at _ _,_,_,_,_,_,[],rfl,ha,rfl⟩
 ·intro i x hxi
  rw [Nat.zero_add,hg.cell]
  simpa using hxi
theorem sets_walk {B:Nat} (l:List Ky) (a:Option Addr) (c:Nat) (w:World) (hx:Cx B w) (hi:∀ k∈l,IntOk k.kty) (hz:szYs l≤1048576) (hin:InMem (All w) w (.slice a l.length c) l.length (kyCs l)) :
  Calls Tryz.prog 7 #[.slice a l.length c] w fun e w'=>e=.returned (.bool true)∧Fr NoB w w':=by
 have hlen:=szYs_len l
 have hlM:l.length≤1048576:=by omega
 have hsz:∀ k∈l,szY k≤1048576:=fun k hk=>by have:=szYs_mem hk;omega
 have HV:Hid (∀ k∈l,∀ u,Calls Tryz.prog 8 #[.agg (kyC k)] u fun e w'=>∃ v,e=.returned (.tuple #[v,.int .i64 (if kyOk k then 0 else 100)])∧RAt (Rng u.heap.size w'.heap.size) w' (if kyOk k then valK k else Jv.nul) v∧Fr NoB u w'):=Lib.hid (fun k hk u=>value_any k u (sm_of (hi k hk) (hsz k hk)))
 have HC:Hid (∀ k∈l,∀ u,Calls Tryz.prog 12 #[.agg (kyC k)] u fun e w'=>e=.returned (.int .i64 (if kyOk k then 0 else 100))∧Fr NoB u w'):=Lib.hid (fun k hk u=>kcheck_any k u (sm_of (hi k hk) (hsz k hk)))
 have HFx:Hid (∀ u,Fr NoB w u→Calls Tryz.prog 15 #[] u fun e w'=>e=.returned (.bool true)∧Fr NoB u w'):=Lib.hid (fun u f=>kfixed_any u (hx.fr0 f))
 have HST:Hid ((∀ k∈l,kyOk k=true)→∀ u v,Fr NoB w u→RAt (All u) u (manyJ l) v→Calls Tryz.prog 18 #[v] u fun e w'=>SetIs (if 1≤l.length∧l.length≤8∧dfree [] l=true then some l else none) u e w'∧Fr NoB u w'):=Lib.hid (fun hok u v f h=>by
  have:=kset_any (manyJ l) v u (hx.fr0 f) h (many_jsm l hsz) (fun y hy x hx=>by
   rw [many_got] at hy
   cases hy
   exact vals_sz l x hx hsz)
  rwa [many_set hok] at this)
 have HSM:Hid (∀ u vb,Fr NoB w u→l.length≤8→InMem (All u) u vb l.length (kyCs l)→Calls Tryz.prog 20 #[vb,.slice a l.length c] u fun e w'=>e=.returned (.bool true)∧Fr NoB u w'):=Lib.hid (fun u vb f h8 h=>ksame_any l vb _ u (by omega) h ((hin.fr (fun g hg=>f.block g hg (fun e=>e))).mono (fun g hg=>Nat.lt_of_lt_of_le hg f.size)))
 have HIN:=Lib.hid hin
 have st:=VS.start w
 have hone:((#[.int .i64 5,.int .i64 0,.string ⟨#[]⟩,.slice none 0 0,.slice none 0 0]:Array Value).all (·.oneCell'))=true:=one_json _ _ _ _ _ _ _ _ _
 have n0:=Blk.new w 31 zj
 obtain ⟨i1,hj0,hy0,hy1,hy2⟩:=info_parts info_json
 clear hin hi hz hsz hx hlen
 obtain ⟨fine,hfine⟩:∃ b:Bool,b=(decide (1≤l.length)&&decide (l.length≤8)):=⟨_,rfl⟩
 have HFI:=Lib.hid hfine
 clear hfine
 go_enter Tryz.func7,Tryz.ntmps7
 go_upto_region 2 with (refine wpList_store_row rfl 31 _ _ rfl w.heap.size #[.int .i64 5,.int .i64 0,.string ⟨#[]⟩,.slice none 0 0,.slice none 0 0] rfl rfl 31 zj n0 size_json rfl hone ?_)
 clear n0 hone
 generalize (w.alloc (.cells zj 31)).setRow w.heap.size #[.int .i64 5,.int .i64 0,.string ⟨#[]⟩,.slice none 0 0,.slice none 0 0]=W at *
 simp only [Act.put]
 go_cut [4] (fun v4 wx=>v4=.bool fine∧wx=W)
 case first=>
  by_cases h1:1≤l.length
  ·have h1':(1:Int)≤l.length:=by omega
   by_cases h8:l.length≤8
   ·have h8':(l.length:Int)≤8:=by omega
    have hf:fine=true:=by rw [HFI.out];simp [h1,h8]
    go_wp2_with fail
    go_meet
    exact ⟨by rw [hf],rfl⟩
   ·have h8':¬ (l.length:Int)≤8:=by omega
    have hf:fine=false:=by rw [HFI.out];simp [h8]
    go_wp2_with fail
    go_meet
    exact ⟨by rw [hf],rfl⟩
  ·have h1':¬ (1:Int)≤l.length:=by omega
   have hf:fine=false:=by rw [HFI.out];simp [h1]
   go_wp2_with fail
   go_meet
   exact ⟨by rw [hf],rfl⟩
 case rest=>
 obtain ⟨rfl,rfl⟩:=hcut
 go_wp2_with fail
 go_loopw [4,5] (fun v4 v5 wr=>∃ (m:Nat) (lv:Value),m≤l.length∧v5=.int .i64 m∧v4=.bool (fine&&dfree [] (l.take m))∧(∀ k∈l.take m,kyOk k=true)∧VS w ((l.take m).map valK) lv wr) (fun _ v5 _=>l.length - (intOf v5).toNat)
 case atStart=>exact ⟨0,_,Nat.zero_le _,rfl,by simp [dfree],by simp,st⟩
 case round=>
  clear st
  obtain ⟨m,lv,hm,rfl,rfl,hoks,hvs⟩:=hrel
  by_cases hlt:m<l.length
  ·have k1:(0:Int)≤m:=by omega
   have k2:(m:Int)<l.length:=by omega
   obtain ⟨ga,oa,rfl,ha⟩:=HIN.out.at_ hvs.fr (by omega)
   have HHA:Hid (∀ u,Fr NoB w u→∀ (i:Nat) x,(kyCs l)[i]?=some x→u.cell? ⟨ga,oa+i,none⟩=some x):=Lib.hid (fun u f i x hx=>by
    obtain ⟨g',o',e,ha'⟩:=HIN.out.at_ f (by omega)
    obtain ⟨rfl,rfl⟩:ga=g'∧oa=o':=by simpa using e
    exact ha' i x hx)
   have HLM:Hid (∀ (p:Nat) (hp:p<l.length) u,Fr NoB w u→u.cell? ⟨ga,oa+p*8+1,none⟩=some (.string ⟨l[p].kid.toArray⟩)):=Lib.hid (fun p hp u f=>HHA.out u f _ _ ((kyCs_get l p hp 1 (by omega)).trans rfl))
   have HRW:Hid (∀ (j:Nat) x u,Fr NoB w u→j<8→(kyC l[m])[j]?=some x→u.cell? ⟨ga,oa+(m*8+j),none⟩=some x):=Lib.hid (fun j x u f hj hx=>HHA.out u f _ _ ((kyCs_get l m hlt j hj).trans hx))
   have HVk:=Lib.hid (HV.out l[m] (List.getElem_mem hlt))
   have HCk:=Lib.hid (HC.out l[m] (List.getElem_mem hlt))
   have HTK:Hid (l.take (m+1)=l.take m++[l[m]]):=Lib.hid (by rw [List.take_add_one,List.getElem?_eq_getElem hlt];rfl)
   have HLm:Hid (∀ u,Fr NoB w u→u.cell? ⟨ga,oa+m*8+1,none⟩=some (.string ⟨l[m].kid.toArray⟩)):=Lib.hid (HLM.out m hlt)
   generalize l[m]=q at *
   have HQ:Hid (∀ u,Fr NoB w u→u.cell? ⟨ga,oa+m*8,none⟩=some (.int .i64 q.kty)∧u.cell? ⟨ga,oa+m*8+1,none⟩=some (.string ⟨q.kid.toArray⟩)∧u.cell? ⟨ga,oa+m*8+2,none⟩=some (.string ⟨q.alg.toArray⟩)∧u.cell? ⟨ga,oa+m*8+3,none⟩=some (.string ⟨q.n.toArray⟩)∧u.cell? ⟨ga,oa+m*8+4,none⟩=some (.string ⟨q.e.toArray⟩)∧u.cell? ⟨ga,oa+m*8+5,none⟩=some (.string ⟨q.x.toArray⟩)∧u.cell? ⟨ga,oa+m*8+6,none⟩=some (.string ⟨q.y.toArray⟩)∧u.cell? ⟨ga,oa+m*8+7,none⟩=some (.string ⟨q.sec.toArray⟩)):=Lib.hid (fun u f=>⟨HRW.out 0 _ u f (by omega) rfl,HRW.out 1 _ u f (by omega) rfl,HRW.out 2 _ u f (by omega) rfl,HRW.out 3 _ u f (by omega) rfl,HRW.out 4 _ u f (by omega) rfl,HRW.out 5 _ u f (by omega) rfl,HRW.out 6 _ u f (by omega) rfl,HRW.out 7 _ u f (by omega) rfl⟩)
   obtain ⟨c0,c1,c2,c3,c4,c5,c6,c7⟩:=HQ.out wr hvs.fr
   clear ha HHA HRW
   cases hok:kyOk q with
   | false=>
    rw [hok] at HVk HCk
    clear hok
    have F0:=hvs.fr
    go_upto_region 7 with (first|(go_at_call 8;((with_reducible refine (HVk.out _).mono ?_);rintro er w1 ⟨v,rfl,hv,f1⟩;obtain ⟨x0,x1,x2,x3,x4,rfl,o1⟩:=hv.form;have n1:=Blk.new w1 31 zj))|(refine wpList_store_row rfl 31 _ _ rfl w1.heap.size #[x0,x1,x2,x3,x4] rfl rfl 31 zj n1 size_json rfl o1 ?_))
    obtain ⟨p1,b1⟩:=put_row w1 x0 x1 x2 x3 x4
    have F1:=F0.trans (f1.trans p1)
    clear n1 p1 f1 b1 hv c0 c1 c2 c3 c4 c5 c6 c7
    generalize (w1.alloc (.cells zj 31)).setRow w1.heap.size #[x0,x1,x2,x3,x4]=U1 at *
    obtain ⟨c0,c1,c2,c3,c4,c5,c6,c7⟩:=HQ.out U1 F1
    go_wp2_with (first|(go_at_call 12;((with_reducible refine (HCk.out _).mono ?_);rintro er w2 ⟨rfl,f2⟩))|(go_at_call 15;((with_reducible refine (HFx.out _ (F1.trans f2)).mono ?_);rintro er w3 ⟨rfl,f3⟩)))
    go_ret
    exact ⟨rfl,F1.trans (f2.trans f3)⟩
   | true=>
    rw [hok] at HVk
    have HVj:Hid (∀ u,Calls Tryz.prog 8 #[.agg (kyC q)] u fun e w'=>∃ v,e=.returned (.tuple #[v,.int .i64 0])∧RAt (Rng u.heap.size w'.heap.size) w' (valK q) v∧Fr NoB u w'):=Lib.hid HVk.out
    have HOK:=Lib.hid hok
    clear hok HVk
    go_upto_region 7 with (first|(go_at_call 8;((with_reducible refine (HVj.out _).mono ?_);rintro er w1 ⟨v,rfl,hv,f1⟩;obtain ⟨x0,x1,x2,x3,x4,rfl,o1⟩:=hv.form;have n1:=Blk.new w1 31 zj))|(refine wpList_store_row rfl 31 _ _ rfl w1.heap.size #[x0,x1,x2,x3,x4] rfl rfl 31 zj n1 size_json rfl o1 ?_))
    obtain ⟨p1,b1⟩:=put_row w1 x0 x1 x2 x3 x4
    have hv1:=RAt.fr (fun g hg=>p1.block g hg.2 (fun e=>e)) _ _ hv
    have hvs1:=hvs.noB (f1.trans p1)
    have hs1:=p1.size
    have hs0:=f1.size
    have hwr:=hvs.v.lt
    obtain ⟨cs0,ck0⟩:=hvs.rows.vals
    have hlvb:∀ g,lv.ownBlock=some g→g<wr.heap.size:=fun g hg=>(ck0.lt g hg).2
    clear n1 p1 f1 hv c0 c1 c2 c3 c4 c5 c6 c7 hvs ck0 HVj HCk
    generalize (w1.alloc (.cells zj 31)).setRow w1.heap.size #[x0,x1,x2,x3,x4]=U1 at *
    obtain ⟨cs,ck⟩:=hvs1.rows.vals
    have v3:U1.cell? ⟨w.heap.size,3,none⟩=some lv:=(hvs1.v.cell 3).trans rfl
    obtain ⟨d0,d1,d2,d3,d4⟩:=b1.five
    have hml:((l.take m).map valK).length=m:=by rw [List.length_map,List.length_take];omega
    have hones:∀ u∈[x0,x1,x2,x3,x4],u.oneCell'=true:=by simpa using o1
    have ckA:=((Fr.refl NoB U1).alloc (.cells #[x0,x1,x2,x3,x4] 31)).row ck (fun _ _ e=>e)
    have hws:w.heap.size+1≤U1.heap.size:=by omega
    generalize hLS:(l.take m).map valK=LS at *
    have HML:=Lib.hid hml
    clear hml
    go_upto_region 10 with (at_builtin;go_loud (refine wpList_append_lies _ rfl _ _ 28 rfl (w.heap.size+1) 31 i1 (jV 0 0 [] (.slice none 0 0) (.slice none 0 0)) 5 80 Tryz.underlying28 hj0 hy0 hy1 hy2 rfl (by decide) lv LS.length cs rfl ckA ⟨U1.heap.size,0,none⟩ 1 1 [x0,x1,x2,x3,x4] rfl rfl (World.news_of_block (cs := #[x0,x1,x2,x3,x4]) (t:=31) (fr:=(0,0)) (heap_alloc_new U1 _)) hones (by omega) (by have:=HML.out;unfold maxLen;omega) (by have:=HML.out;omega) (by simp;omega) (U1.heap.size+1) (by simp) ?_;intro g cap wl hown hgr hat hglt;obtain ⟨bv3,st3⟩:=hvs1.item hv1 (by omega) (by omega) hlvb g cap _ ckA hown hgr hat;have cv3:wl.cell? ⟨w.heap.size,3,none⟩=some lv:=(bv3.cell 3).trans rfl;have zv3:=bv3.frozen 3))
    have hnew:LS++[valK q]=(l.take (m+1)).map valK:=by rw [HTK.out,List.map_append,hLS];rfl
    rw [hnew] at st3
    clear hown hgr hat hglt ckA ck hvs1 hv1 v3 cv3 zv3 bv3 d0 d1 d2 d3 d4 b1 o1 hones
    generalize wl.setCell ⟨w.heap.size,3,none⟩ (.slice (some ⟨g,0,none⟩) (LS.length+1) cap)=V at *
    generalize Value.slice (some ⟨g,0,none⟩) (LS.length+1) cap=lv2 at *
    obtain ⟨fb,hfb⟩:∃ b:Bool,b=(fine&&dfree [] (l.take m)):=⟨_,rfl⟩
    rw [← hfb]
    have HFB:=Lib.hid hfb
    clear hfb
    have HTL:Hid (∀ p:Nat,p≤m→(l.take m).take p=l.take p):=Lib.hid (fun p hp=>by rw [List.take_take,Nat.min_eq_left hp])
    go_wp2_with fail
    go_loopw [4,8] (fun v4 v8 wr2=>∃ p:Nat,p≤m∧v8=.int .i64 p∧v4=.bool (fb && !clash (l.take p) q)∧Fr NoB V wr2) (fun _ v8 _=>m - (intOf v8).toNat)
    case atStart=>exact ⟨0,Nat.zero_le _,rfl,by simp [clash],Fr.refl _ _⟩
    case round=>
     obtain ⟨p,hp,rfl,rfl,hf⟩:=hrel
     have hst:=st3.noB hf
     by_cases hpm:p<m
     ·have hpl:p<l.length:=by omega
      have j1:(0:Int)≤p:=by omega
      have j2:(p:Int)<l.length:=by omega
      have j3:(p:Int)<m:=by omega
      have e1:=HLm.out _ hst.fr
      have e2:=HLM.out p hpl _ hst.fr
      have HCT:Hid (clash (l.take (p+1)) q=(clash (l.take p) q || sameK l[p] q)):=Lib.hid (clash_take l p hpl q)
      have HSK:Hid (sameK l[p] q=(decide (l[p].kid=q.kid)&&decide (q.kid≠[]))):=Lib.hid rfl
      generalize l[p]=o at *
      generalize sameK o q=sk at *
      generalize clash (l.take p) q=cl at *
      obtain ⟨b4,hb4⟩:∃ b:Bool,b=(fb && !cl):=⟨_,rfl⟩
      rw [← hb4]
      have HB4:=Lib.hid hb4
      clear hb4
      cases b4 with
      | false=>
       go_wp2_with fail
       go_quiet (fail)
       go_wp2_with fail
       go_roundw
       case rel=>exact ⟨p+1,by omega,by simp,by rw [HCT.out];have:=HB4.out;revert this;cases fb<;>cases cl<;>simp,hf.drewN _⟩
       case measure=>simp [intOf];omega
      | true=>
       obtain ⟨rfl,rfl⟩:fb=true∧cl=false:=by have:=HB4.out;revert this;cases fb<;>cases cl<;>simp
       generalize q.kid=qk at *
       generalize o.kid=ok at *
       by_cases hq0:qk=[]
       ·subst hq0
        have hsk:sk=false:=by rw [HSK.out];simp
        go_wp2_with fail
        go_quiet (fail)
        go_wp2_with fail
        go_roundw
        case rel=>exact ⟨p+1,by omega,by simp,by rw [HCT.out,hsk];rfl,hf.drewN _⟩
        case measure=>simp [intOf];omega
       ·have hq1:(qk==[])=false:=by cases qk with|nil=>exact absurd rfl hq0|cons a b=>rfl
        have hq2:qk.isEmpty=false:=by cases qk with|nil=>exact absurd rfl hq0|cons a b=>rfl
        by_cases hoq:ok=qk
        ·subst hoq
         have hsk:sk=true:=by rw [HSK.out];simp [hq0]
         go_wp2_with fail
         go_quiet (fail)
         go_wp2_with fail
         go_roundw
         case rel=>exact ⟨p+1,by omega,by simp,by rw [HCT.out,hsk];rfl,hf.drewN _⟩
         case measure=>simp [intOf];omega
        ·have hsk:sk=false:=by rw [HSK.out];simp [hoq]
         have hoq2:(ok==qk)=false:=by simpa using hoq
         go_wp2_with fail
         go_quiet (fail)
         go_wp2_with fail
         go_roundw
         case rel=>exact ⟨p+1,by omega,by simp,by rw [HCT.out,hsk];rfl,hf.drewN _⟩
         case measure=>simp [intOf];omega
     ·obtain rfl:p=m:=by omega
      have hnj:¬ ((p:Int)<p):=by omega
      go_wp2_with fail
      go_roundw
      case rel=>exact ⟨p+1,lv2,by omega,by simp,by rw [HTK.out,dfree_snoc,List.nil_append,HFB.out,Bool.and_assoc],by
       rw [HTK.out]
       intro k hk
       rcases List.mem_append.1 hk with hk|hk
       ·exact hoks k hk
       ·rw [List.mem_singleton] at hk;subst hk;exact HOK.out,hst⟩
      case measure=>simp [intOf];omega
  ·obtain rfl:m=l.length:=by omega
   rw [List.take_length] at hoks hvs
   have HS2:=Lib.hid (HST.out hoks)
   have hjt:=hvs.rows.top 5 (Nat.le_refl _) (by unfold IntOk;omega) (by rw [List.length_map];unfold big;omega) ⟨by simp,by simp⟩
   have hat:=RAt.mono (fun g hg=>hg.2) _ _ hjt.at_
   have F0:=hvs.fr
   have bv:=hvs.v
   obtain ⟨fb,hfb⟩:∃ b:Bool,b=(fine&&dfree [] l):=⟨_,rfl⟩
   rw [List.take_length,← hfb]
   have HFB:Hid ((1≤l.length∧l.length≤8∧dfree [] l=true) ↔ fb=true):=Lib.hid (by rw [hfb,HFI.out];simp [and_assoc])
   clear hfb hoks hjt hvs
   have g1:=Blk.new wr 9 #[.string ⟨#[120]⟩,.string ⟨#[107,101,121,115]⟩]
   have bv1:=bv.alloc (.cells #[.string ⟨#[120]⟩,.string ⟨#[107,101,121,115]⟩] 9)
   have g2:=Blk.new (wr.alloc (.cells #[.string ⟨#[120]⟩,.string ⟨#[107,101,121,115]⟩] 9)) 31 #[.int .i64 0,.int .i64 0,.string ⟨#[]⟩,.slice none 0 0,.slice none 0 0,.int .i64 5,.int .i64 0,.string ⟨#[]⟩,lv,.slice none 0 0]
   have g1':=g1.alloc (.cells #[.int .i64 0,.int .i64 0,.string ⟨#[]⟩,.slice none 0 0,.slice none 0 0,.int .i64 5,.int .i64 0,.string ⟨#[]⟩,lv,.slice none 0 0] 31)
   have fz:Fr NoB wr ((wr.alloc (.cells #[.string ⟨#[120]⟩,.string ⟨#[107,101,121,115]⟩] 9)).alloc (.cells #[.int .i64 0,.int .i64 0,.string ⟨#[]⟩,.slice none 0 0,.slice none 0 0,.int .i64 5,.int .i64 0,.string ⟨#[]⟩,lv,.slice none 0 0] 31)):=((Fr.refl _ _).alloc _).alloc _
   have hsz1:(wr.alloc (.cells #[.string ⟨#[120]⟩,.string ⟨#[107,101,121,115]⟩] 9)).heap.size=wr.heap.size+1:=by simp
   rw [hsz1] at g2
   have HMA:=Lib.hid (many_at (wr.heap.size+1) wr.heap.size (hat.all fz) g2 g1')
   have HSET:=Lib.hid (HS2.out _ _ (F0.trans fz) HMA.out)
   clear hat g1 g2 g1' hsz1 HMA HS2 HST
   cases fb with
   | true=>
    have h3:=HFB.out.2 rfl
    rw [if_pos h3] at HSET
    go_wp2_with (first|(refine ldJ rfl _ rfl w.heap.size rfl bv1 rfl ?_)|(go_at_call 18;((refine HSET.out.mono ?_);rintro er w2 ⟨⟨gs,rfl,hp,hg1,hg2,hcell,hfz⟩,f2⟩))|(go_at_call 20;((with_reducible refine (HSM.out _ _ (F0.trans (fz.trans f2)) h3.2.1 (inmem_zero hg2 hcell)).mono ?_);rintro er w3 ⟨rfl,f3⟩))|(go_at_call 15;((with_reducible refine (HFx.out _ (F0.trans (fz.trans (f2.trans f3)))).mono ?_);rintro er w4 ⟨rfl,f4⟩)))
    go_ret
    exact ⟨rfl,F0.trans (fz.trans (f2.trans (f3.trans f4)))⟩
   | false=>
    have h3:¬ (1≤l.length∧l.length≤8∧dfree [] l=true):=fun e=>by have:=HFB.out.1 e;cases this
    rw [if_neg h3] at HSET
    go_wp2_with (first|(refine ldJ rfl _ rfl w.heap.size rfl bv1 rfl ?_)|(go_at_call 18;((refine HSET.out.mono ?_);rintro er w2 ⟨he,f2⟩;obtain rfl:=he))|(go_at_call 15;((with_reducible refine (HFx.out _ (F0.trans (fz.trans f2))).mono ?_);rintro er w3 ⟨rfl,f3⟩)))
    go_ret
    exact ⟨rfl,F0.trans (fz.trans (f2.trans f3))⟩
end Go.Proofs.YtbifjamddbpcjaaGreatDoor
