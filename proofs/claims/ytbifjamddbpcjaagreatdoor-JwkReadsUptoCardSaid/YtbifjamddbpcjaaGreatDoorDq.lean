/- Keys. -/
import Derived.Test.YtbifjamddbpcjaaGreatDoorDo
import Derived.Test.YtbifjamddbpcjaaGreatDoorDk
import Derived.Test.YtbifjamddbpcjaaGreatDoorYk
namespace Go.Proofs.YtbifjamddbpcjaaGreatDoor
set_option maxRecDepth 100000
set_option maxHeartbeats 25600000
open Go.RowKit
theorem dput_key (u:World) (k:Ky):Fr NoB u ((u.alloc (.cells zk 27)).setRow u.heap.size (kyC k))∧Blk ((u.alloc (.cells zk 27)).setRow u.heap.size (kyC k)) u.heap.size 27 (kyC k):=
 ⟨((Fr.refl NoB u).alloc _).setRow u.heap.size _ (Or.inl (Nat.le_refl _)),(Blk.new u 27 zk).setRow _⟩
theorem dkey_cells {w:World} {g:Nat} {k:Ky} (h:Blk w g 27 (kyC k)):w.cell? ⟨g,0,none⟩=some (.int .i64 k.kty)∧w.cell? ⟨g,1,none⟩=some (.string ⟨k.kid.toArray⟩)∧w.cell? ⟨g,2,none⟩=some (.string ⟨k.alg.toArray⟩)∧w.cell? ⟨g,3,none⟩=some (.string ⟨k.n.toArray⟩)∧w.cell? ⟨g,4,none⟩=some (.string ⟨k.e.toArray⟩)∧w.cell? ⟨g,5,none⟩=some (.string ⟨k.x.toArray⟩)∧w.cell? ⟨g,6,none⟩=some (.string ⟨k.y.toArray⟩)∧w.cell? ⟨g,7,none⟩=some (.string ⟨k.sec.toArray⟩):=
 ⟨(h.cell 0).trans rfl,(h.cell 1).trans rfl,(h.cell 2).trans rfl,(h.cell 3).trans rfl,(h.cell 4).trans rfl,(h.cell 5).trans rfl,(h.cell 6).trans rfl,(h.cell 7).trans rfl⟩
theorem rtext_sz (j:Jv) (nm:Bs):(rText j nm).length≤szJ j:=by
 unfold rText
 cases hg:gotP j nm with
 | none=>simp
 | some x=>
  have h1:=got_sz hg
  obtain ⟨k,i,t,l,ks⟩:=x
  simp only [szJ,Jv.text] at h1 ⊢;omega
theorem rby_sz (j:Jv) (nm:Bs):(rBy j nm).length≤szJ j:=by
 unfold rBy
 cases h:from64 (rText j nm) with
 | none=>simp
 | some t=>have:=from64_le h;have:=rtext_sz j nm;simp;omega
theorem rkey0_sz (j:Jv):(rKey0 j).n.length≤szJ j∧(rKey0 j).e.length≤szJ j∧(rKey0 j).x.length≤szJ j∧(rKey0 j).y.length≤szJ j∧(rKey0 j).sec.length≤szJ j:=by
 have h:=rby_sz j
 unfold rKey0
 split
 ·exact ⟨h _,h _,Nat.zero_le _,Nat.zero_le _,Nat.zero_le _⟩
 ·split
  ·exact ⟨Nat.zero_le _,Nat.zero_le _,h _,h _,Nat.zero_le _⟩
  ·split
   ·exact ⟨Nat.zero_le _,Nat.zero_le _,Nat.zero_le _,Nat.zero_le _,h _⟩
   ·exact ⟨Nat.zero_le _,Nat.zero_le _,Nat.zero_le _,Nat.zero_le _,Nat.zero_le _⟩
theorem rkey_doc (j:Jv) (h:szJ j≤8388608):KyDoc (rKey j):=by
 obtain ⟨h1,h2,h3,h4,h5⟩:=rkey0_sz j
 have h6:=rtext_sz j nAlg
 have h7:=rtext_sz j nKid
 exact ⟨by show (rText j nKid).length≤_;unfold lot;omega,by show (rText j nAlg).length≤_;unfold lot;omega,by show (rKey0 j).n.length≤_;omega,by show (rKey0 j).e.length≤_;omega,by show (rKey0 j).x.length≤_;omega,by show (rKey0 j).y.length≤_;omega,by show (rKey0 j).sec.length≤_;omega⟩
theorem dof_any (j:Jv) (v:Value) (w:World) (hat:RAt (All w) w j v) (hsz:szJ j≤8388608) :
  Calls Tryz.prog 17 #[v] w fun e w'=>e=.returned (.tuple #[.agg (kyC ((ofK j).getD kz)),.int .i64 (if (ofK j).isSome then 0 else 100)])∧Fr NoB w w':=by
 obtain ⟨v0,v1,v2,v3,v4,rfl,hone⟩:=hat.form
 have HC:Hid (∀ u,Fr NoB w u→Calls Tryz.prog 44 #[.agg #[v0,v1,v2,v3,v4]] u fun e w'=>e=.returned (.int .i64 (checkP 0 j:Int))∧Fr NoB u w'):=Lib.hid (fun u f=>rCheck_any (All u) j _ u (fun _ h=>h) (hat.all f) (JSd_of j hsz))
 have b0:=(Blk.new w 31 #[v0,v1,v2,v3,v4]).alloc (.cells zk 27)
 have bk:Blk ((w.alloc (.cells #[v0,v1,v2,v3,v4] 31)).alloc (.cells zk 27)) (w.heap.size+1) 27 zk:=by
  have:=Blk.new (w.alloc (.cells #[v0,v1,v2,v3,v4] 31)) 27 zk
  simpa using this
 have f0:Fr NoB w ((w.alloc (.cells #[v0,v1,v2,v3,v4] 31)).alloc (.cells zk 27)):=((Fr.refl _ _).alloc _).alloc _
 have hok:checkP 0 j=0→JvOk j:=fun h=>by
  obtain ⟨k,i,t,l,ks⟩:=j
  exact fun h6=>((form_kind (form_of 0 k i t l ks h).1).2.2 h6).1
 have HTx:Hid (checkP 0 j=0→∀ nm u,Fr NoB w u→Calls Tryz.prog 45 #[.agg #[v0,v1,v2,v3,v4],.string ⟨(nm:Bs).toArray⟩] u fun e w'=>e=.returned (.tuple #[.string ⟨(rText j nm).toArray⟩,.bool (rIs j nm)])∧Fr NoB u w'):=Lib.hid (fun h nm u f=>dtext_any j _ nm u (hat.all f) (hok h))
 have HBy:Hid (checkP 0 j=0→∀ nm u,Fr NoB w u→Calls Tryz.prog 46 #[.agg #[v0,v1,v2,v3,v4],.string ⟨(nm:Bs).toArray⟩] u fun e w'=>e=.returned (.tuple #[.string ⟨(rBy j nm).toArray⟩,.bool (rByB j nm)])∧Fr NoB u w'):=Lib.hid (fun h nm u f=>dbytes_any j _ nm u (hat.all f) (hok h) (by have:=rtext_sz j nm;omega))
 have HMb:Hid (checkP 0 j=0→∀ nm u,Fr NoB w u→Calls Tryz.prog 47 #[.agg #[v0,v1,v2,v3,v4],.string ⟨(nm:Bs).toArray⟩] u fun e w'=>∃ x,e=.returned (.tuple #[x,.bool (rHas j nm)])∧RAt (All u) w' ((gotP j nm).getD Jv.nul) x∧Fr NoB u w'):=Lib.hid (fun h nm u f=>dmember_any (All u) j _ nm u (fun _ h=>h) (hat.all f) (hok h))
 have HK:Hid (∀ u,Calls Tryz.prog 13 #[.agg (kyC (rKey j))] u fun e w'=>e=.returned (.int .i64 (if kyOk (rKey j) then 0 else 100))∧Fr NoB u w'):=Lib.hid (fun u=>dcheck_any (rKey j) u (rkey_doc j hsz))
 obtain ⟨res,hres⟩:∃ r,r=ofK j:=⟨_,rfl⟩
 rw [← hres]
 have HRS:=Lib.hid hres
 have honez:=one_key kz
 have HC1:=Lib.hid (HC.out _ f0)
 clear hres hat hok HC
 go_enter Tryz.func17,Tryz.ntmps17
 go_upto_region 1 with fail
 generalize (w.alloc (.cells #[v0,v1,v2,v3,v4] 31)).alloc (.cells zk 27)=W at *
 by_cases hc:checkP 0 j=0
 rotate_left
 ·have hcn:¬ (checkP 0 j:Int)=0:=by omega
  obtain rfl:res=none:=by rw [HRS.out,ofK,if_neg hc]
  clear HRS HTx HBy HMb HK hc
  generalize (checkP 0 j:Int)=zc at *
  go_wp2_with (first|(refine ldJ rfl _ rfl w.heap.size rfl b0 rfl ?_)|(go_at_call 44;((with_reducible refine HC1.out.mono ?_);rintro er w1 ⟨rfl,f1⟩;have bk2:=f1.blk bk id))|(refine wpList_store_row rfl 27 _ _ rfl (w.heap.size+1) zk rfl rfl 27 _ bk2 size_key rfl honez ?_))
  exact bodyPost_ret (v:=.tuple #[.agg (kyC kz),.int .i64 100]) (key_back rfl _ _ (w.heap.size+1) kz _ rfl rfl (bk2.setRow zk)) rfl ⟨rfl,(f0.trans f1).setRow (w.heap.size+1) _ (Or.inl (by omega))⟩
 have HRO:Hid (res=if rOk j then some (rKey j) else none):=Lib.hid (by rw [HRS.out,← rof_eq hc];rfl)
 have HT1:=Lib.hid (HTx.out hc)
 have HB1:=Lib.hid (HBy.out hc)
 have HM1:=Lib.hid (HMb.out hc)
 rw [hc] at HC1
 clear HRS HTx HBy HMb hc
 go_upto_region 3 with (first|(refine ldJ rfl _ rfl w.heap.size rfl b0 rfl ?_)|(go_at_call 44;((with_reducible refine HC1.out.mono ?_);rintro er w1 ⟨rfl,f1⟩)))
 have b1:=f1.blk b0 id
 have bk1:=f1.blk bk id
 have F1:=f0.trans f1
 have n0:=Blk.new w1 27 zk
 clear b0 bk f0 f1 HC1
 go_upto_region 4 with (refine wpList_store_row rfl 27 _ _ rfl w1.heap.size zk rfl rfl 27 _ n0 size_key rfl honez ?_)
 have bK:Blk ((w1.alloc (.cells zk 27)).setRow w1.heap.size zk) w1.heap.size 27 (kyC ⟨0,[],[],[],[],[],[],[]⟩):=n0.setRow zk
 have F:Fr NoB w1 ((w1.alloc (.cells zk 27)).setRow w1.heap.size zk):=((Fr.refl NoB w1).alloc _).setRow _ _ (Or.inl (Nat.le_refl _))
 clear n0
 generalize (w1.alloc (.cells zk 27)).setRow w1.heap.size zk=u0 at *
 have HTk:Hid (∀ u,Fr NoB w1 u→Calls Tryz.prog 45 #[.agg #[v0,v1,v2,v3,v4],.string ⟨#[107,116,121]⟩] u fun e w'=>e=.returned (.tuple #[.string ⟨(rText j nKty).toArray⟩,.bool (rIs j nKty)])∧Fr NoB u w'):=Lib.hid (fun u f=>HT1.out nKty u (F1.trans f))
 have HTc:Hid (∀ u,Fr NoB w1 u→Calls Tryz.prog 45 #[.agg #[v0,v1,v2,v3,v4],.string ⟨#[99,114,118]⟩] u fun e w'=>e=.returned (.tuple #[.string ⟨(rText j nCrv).toArray⟩,.bool (rIs j nCrv)])∧Fr NoB u w'):=Lib.hid (fun u f=>HT1.out nCrv u (F1.trans f))
 have HTa:Hid (∀ u,Fr NoB w1 u→Calls Tryz.prog 45 #[.agg #[v0,v1,v2,v3,v4],.string ⟨#[97,108,103]⟩] u fun e w'=>e=.returned (.tuple #[.string ⟨(rText j nAlg).toArray⟩,.bool (rIs j nAlg)])∧Fr NoB u w'):=Lib.hid (fun u f=>HT1.out nAlg u (F1.trans f))
 have HTi:Hid (∀ u,Fr NoB w1 u→Calls Tryz.prog 45 #[.agg #[v0,v1,v2,v3,v4],.string ⟨#[107,105,100]⟩] u fun e w'=>e=.returned (.tuple #[.string ⟨(rText j nKid).toArray⟩,.bool (rIs j nKid)])∧Fr NoB u w'):=Lib.hid (fun u f=>HT1.out nKid u (F1.trans f))
 have HBn:Hid (∀ u,Fr NoB w1 u→Calls Tryz.prog 46 #[.agg #[v0,v1,v2,v3,v4],.string ⟨#[110]⟩] u fun e w'=>e=.returned (.tuple #[.string ⟨(rBy j nN).toArray⟩,.bool (rByB j nN)])∧Fr NoB u w'):=Lib.hid (fun u f=>HB1.out nN u (F1.trans f))
 have HBe:Hid (∀ u,Fr NoB w1 u→Calls Tryz.prog 46 #[.agg #[v0,v1,v2,v3,v4],.string ⟨#[101]⟩] u fun e w'=>e=.returned (.tuple #[.string ⟨(rBy j nE).toArray⟩,.bool (rByB j nE)])∧Fr NoB u w'):=Lib.hid (fun u f=>HB1.out nE u (F1.trans f))
 have HBx:Hid (∀ u,Fr NoB w1 u→Calls Tryz.prog 46 #[.agg #[v0,v1,v2,v3,v4],.string ⟨#[120]⟩] u fun e w'=>e=.returned (.tuple #[.string ⟨(rBy j nX).toArray⟩,.bool (rByB j nX)])∧Fr NoB u w'):=Lib.hid (fun u f=>HB1.out nX u (F1.trans f))
 have HBy2:Hid (∀ u,Fr NoB w1 u→Calls Tryz.prog 46 #[.agg #[v0,v1,v2,v3,v4],.string ⟨#[121]⟩] u fun e w'=>e=.returned (.tuple #[.string ⟨(rBy j nY).toArray⟩,.bool (rByB j nY)])∧Fr NoB u w'):=Lib.hid (fun u f=>HB1.out nY u (F1.trans f))
 have HBk:Hid (∀ u,Fr NoB w1 u→Calls Tryz.prog 46 #[.agg #[v0,v1,v2,v3,v4],.string ⟨#[107]⟩] u fun e w'=>e=.returned (.tuple #[.string ⟨(rBy j nK).toArray⟩,.bool (rByB j nK)])∧Fr NoB u w'):=Lib.hid (fun u f=>HB1.out nK u (F1.trans f))
 have HMa:Hid (∀ u,Fr NoB w1 u→Calls Tryz.prog 47 #[.agg #[v0,v1,v2,v3,v4],.string ⟨#[97,108,103]⟩] u fun e w'=>∃ x,e=.returned (.tuple #[x,.bool (rHas j nAlg)])∧RAt (All u) w' ((gotP j nAlg).getD Jv.nul) x∧Fr NoB u w'):=Lib.hid (fun u f=>HM1.out nAlg u (F1.trans f))
 have HMi:Hid (∀ u,Fr NoB w1 u→Calls Tryz.prog 47 #[.agg #[v0,v1,v2,v3,v4],.string ⟨#[107,105,100]⟩] u fun e w'=>∃ x,e=.returned (.tuple #[x,.bool (rHas j nKid)])∧RAt (All u) w' ((gotP j nKid).getD Jv.nul) x∧Fr NoB u w'):=Lib.hid (fun u f=>HM1.out nKid u (F1.trans f))
 clear HT1 HB1 HM1
 have HK0:Hid (rKey0 j=if rText j nKty=nRsa then ⟨0,[],[],rBy j nN,rBy j nE,[],[],[]⟩
  else if rText j nKty=nEc then ⟨1,[],[],[],[],rBy j nX,rBy j nY,[]⟩
  else if rText j nKty=nOct then ⟨2,[],[],[],[],[],[],rBy j nK⟩
  else kz):=Lib.hid rfl
 have HO0:Hid (rOk0 j=(rIs j nKty &&
  (if rText j nKty=nRsa then rByB j nN&&rByB j nE
  else if rText j nKty=nEc then rIs j nCrv&&decide (rText j nCrv=nP256)&&(rByB j nX&&rByB j nY)
  else if rText j nKty=nOct then rByB j nK
  else false))):=Lib.hid rfl
 have HRK:Hid (rKey j={ rKey0 j with alg:=rText j nAlg,kid:=rText j nKid }):=Lib.hid rfl
 have HOK:Hid (rOk j=(rOk0 j && !(rHas j nAlg&&decide (rText j nAlg=[])) && !(rHas j nKid&&decide (rText j nKid=[]))&&kyOk (rKey j))):=Lib.hid rfl
 generalize rIs j nKty=tki at *
 generalize rText j nKty=tk at *
 generalize rIs j nCrv=tci at *
 generalize rText j nCrv=tc at *
 generalize rText j nAlg=ta at *
 generalize rText j nKid=ti at *
 generalize rBy j nN=yn at *
 generalize rBy j nE=ye at *
 generalize rBy j nX=yx at *
 generalize rBy j nY=yy at *
 generalize rBy j nK=yk at *
 generalize rByB j nN=qn at *
 generalize rByB j nE=qe at *
 generalize rByB j nX=qx at *
 generalize rByB j nY=qy at *
 generalize rByB j nK=qk at *
 generalize rHas j nAlg=ha at *
 generalize rHas j nKid=hi at *
 generalize rKey0 j=K0 at *
 generalize rOk0 j=O0 at *
 generalize rKey j=K at *
 generalize rOk j=OO at *
 go_upto_block 0 with (first|(refine ldJ rfl _ rfl w.heap.size rfl (F.blk b1 id) rfl ?_)|(go_at_call 45;((with_reducible refine (HTk.out _ F).mono ?_);rintro er u1 ⟨rfl,f1⟩)))
 have bKK:=f1.blk bK id
 have FK:=F.trans f1
 clear bK F f1
 have bK:=bKK
 have F:=FK
 clear bKK FK
 go_cut [5,6,7,8,25] (fun v5 v6 v7 v8 v25 wx=>∃ o a b:Bool,v6=.bool o∧v7=.bool a∧v8=.bool b∧(o&&a&&b)=O0∧Blk wx w1.heap.size 27 (kyC K0)∧Fr NoB w1 wx)
 case first=>
  by_cases h0:tk=nRsa
  ·have e0:(⟨tk.toArray⟩:ByteArray)=⟨#[82,83,65]⟩:=by rw [h0];rfl
   have hk0:K0=⟨0,[],[],yn,ye,[],[],[]⟩:=by rw [HK0.out,if_pos h0]
   have ho0:O0=(tki&&(qn&&qe)):=by rw [HO0.out,if_pos h0]
   clear HK0 HO0 h0
   obtain ⟨c0,c1,c2,c3,c4,c5,c6,c7⟩:=dkey_cells bK
   have zf:=bK.frozen 0
   go_upto_region 10 with fail
   have bK2:Blk (u1.setCell ⟨w1.heap.size,0,none⟩ (.int .i64 0)) w1.heap.size 27 (kyC ⟨0,[],[],[],[],[],[],[]⟩):=bK.set_ 0 (.int .i64 0)
   have F2:=F.setCell_new (p:=⟨w1.heap.size,0,none⟩) (Nat.le_refl _) (.int .i64 0)
   clear c0 c1 c2 c3 c4 c5 c6 c7 zf bK F
   generalize u1.setCell ⟨w1.heap.size,0,none⟩ (.int .i64 0)=u2 at *
   have bK:=bK2
   have F:=F2
   clear bK2 F2
   go_upto_region 11 with (first|(refine ldJ rfl _ rfl w.heap.size rfl (F.blk b1 id) rfl ?_)|(go_at_call 46;((with_reducible refine (HBn.out _ F).mono ?_);rintro er u1 ⟨rfl,f1⟩;obtain ⟨c0,c1,c2,c3,c4,c5,c6,c7⟩:=dkey_cells (f1.blk bK id);have zf:=(f1.blk bK id).frozen 3)))
   have bK2:Blk (u1.setCell ⟨w1.heap.size,3,none⟩ (.string ⟨(yn:Bs).toArray⟩)) w1.heap.size 27 (kyC ⟨0,[],[],yn,[],[],[],[]⟩):=(f1.blk bK id).set_ 3 (.string ⟨(yn:Bs).toArray⟩)
   have F2:=(F.trans f1).setCell_new (p:=⟨w1.heap.size,3,none⟩) (Nat.le_refl _) (.string ⟨(yn:Bs).toArray⟩)
   clear c0 c1 c2 c3 c4 c5 c6 c7 zf bK F f1
   generalize u1.setCell ⟨w1.heap.size,3,none⟩ (.string ⟨(yn:Bs).toArray⟩)=u3 at *
   have bK:=bK2
   have F:=F2
   clear bK2 F2
   go_wp2_with (first|(refine ldJ rfl _ rfl w.heap.size rfl (F.blk b1 id) rfl ?_)|(go_at_call 46;((with_reducible refine (HBe.out _ F).mono ?_);rintro er u1 ⟨rfl,f1⟩;obtain ⟨c0,c1,c2,c3,c4,c5,c6,c7⟩:=dkey_cells (f1.blk bK id);have zf:=(f1.blk bK id).frozen 4)))
   go_meet
   exact ⟨_,_,_,rfl,rfl,rfl,by rw [ho0,Bool.and_assoc],by rw [hk0];exact (f1.blk bK id).set_ 4 (.string ⟨(ye:Bs).toArray⟩),(F.trans f1).setCell_new (p:=⟨w1.heap.size,4,none⟩) (Nat.le_refl _) _⟩
  ·have e0:¬ ((⟨tk.toArray⟩:ByteArray)=⟨#[82,83,65]⟩):=fun e=>h0 ((ba_inj (b:=nRsa)).1 e)
   by_cases h1:tk=nEc
   ·have e1:(⟨tk.toArray⟩:ByteArray)=⟨#[69,67]⟩:=by rw [h1];rfl
    have hk0:K0=⟨1,[],[],[],[],yx,yy,[]⟩:=by rw [HK0.out,if_neg h0,if_pos h1]
    have ho0:O0=(tki&&(tci&&decide (tc=nP256)&&(qx&&qy))):=by rw [HO0.out,if_neg h0,if_pos h1]
    clear HK0 HO0 h0 h1 e0
    have e0:¬ ((⟨#[69,67]⟩:ByteArray)=⟨#[82,83,65]⟩):=by decide
    obtain ⟨c0,c1,c2,c3,c4,c5,c6,c7⟩:=dkey_cells bK
    have zf:=bK.frozen 0
    go_upto_region 14 with fail
    have bK2:Blk (u1.setCell ⟨w1.heap.size,0,none⟩ (.int .i64 1)) w1.heap.size 27 (kyC ⟨1,[],[],[],[],[],[],[]⟩):=bK.set_ 0 (.int .i64 1)
    have F2:=F.setCell_new (p:=⟨w1.heap.size,0,none⟩) (Nat.le_refl _) (.int .i64 1)
    clear c0 c1 c2 c3 c4 c5 c6 c7 zf bK F
    generalize u1.setCell ⟨w1.heap.size,0,none⟩ (.int .i64 1)=u2 at *
    have bK:=bK2
    have F:=F2
    clear bK2 F2
    go_upto_region 15 with (first|(refine ldJ rfl _ rfl w.heap.size rfl (F.blk b1 id) rfl ?_)|(go_at_call 46;((with_reducible refine (HBx.out _ F).mono ?_);rintro er u1 ⟨rfl,f1⟩;obtain ⟨c0,c1,c2,c3,c4,c5,c6,c7⟩:=dkey_cells (f1.blk bK id);have zf:=(f1.blk bK id).frozen 5)))
    have bK2:Blk (u1.setCell ⟨w1.heap.size,5,none⟩ (.string ⟨(yx:Bs).toArray⟩)) w1.heap.size 27 (kyC ⟨1,[],[],[],[],yx,[],[]⟩):=(f1.blk bK id).set_ 5 (.string ⟨(yx:Bs).toArray⟩)
    have F2:=(F.trans f1).setCell_new (p:=⟨w1.heap.size,5,none⟩) (Nat.le_refl _) (.string ⟨(yx:Bs).toArray⟩)
    clear c0 c1 c2 c3 c4 c5 c6 c7 zf bK F f1
    generalize u1.setCell ⟨w1.heap.size,5,none⟩ (.string ⟨(yx:Bs).toArray⟩)=u3 at *
    have bK:=bK2
    have F:=F2
    clear bK2 F2
    go_upto_region 16 with (first|(refine ldJ rfl _ rfl w.heap.size rfl (F.blk b1 id) rfl ?_)|(go_at_call 46;((with_reducible refine (HBy2.out _ F).mono ?_);rintro er u1 ⟨rfl,f1⟩;obtain ⟨c0,c1,c2,c3,c4,c5,c6,c7⟩:=dkey_cells (f1.blk bK id);have zf:=(f1.blk bK id).frozen 6)))
    have bK2:Blk (u1.setCell ⟨w1.heap.size,6,none⟩ (.string ⟨(yy:Bs).toArray⟩)) w1.heap.size 27 (kyC ⟨1,[],[],[],[],yx,yy,[]⟩):=(f1.blk bK id).set_ 6 (.string ⟨(yy:Bs).toArray⟩)
    have F2:=(F.trans f1).setCell_new (p:=⟨w1.heap.size,6,none⟩) (Nat.le_refl _) (.string ⟨(yy:Bs).toArray⟩)
    clear c0 c1 c2 c3 c4 c5 c6 c7 zf bK F f1
    generalize u1.setCell ⟨w1.heap.size,6,none⟩ (.string ⟨(yy:Bs).toArray⟩)=u4 at *
    have bK:=bK2
    have F:=F2
    clear bK2 F2
    cases tki with
    | false=>
     go_wp2_with (first|(refine ldJ rfl _ rfl w.heap.size rfl (F.blk b1 id) rfl ?_)|(go_at_call 45;((with_reducible refine (HTc.out _ F).mono ?_);rintro er u1 ⟨rfl,f1⟩)))
     go_meet
     exact ⟨_,_,_,rfl,rfl,rfl,by rw [ho0];simp,by rw [hk0];exact f1.blk bK id,F.trans f1⟩
    | true=>
     cases tci with
     | false=>
      go_wp2_with (first|(refine ldJ rfl _ rfl w.heap.size rfl (F.blk b1 id) rfl ?_)|(go_at_call 45;((with_reducible refine (HTc.out _ F).mono ?_);rintro er u1 ⟨rfl,f1⟩)))
      go_meet
      exact ⟨_,_,_,rfl,rfl,rfl,by rw [ho0];simp,by rw [hk0];exact f1.blk bK id,F.trans f1⟩
     | true=>
      by_cases hp:tc=nP256
      ·have ep:(⟨tc.toArray⟩:ByteArray)=⟨#[80,45,50,53,54]⟩:=by rw [hp];rfl
       go_wp2_with (first|(refine ldJ rfl _ rfl w.heap.size rfl (F.blk b1 id) rfl ?_)|(go_at_call 45;((with_reducible refine (HTc.out _ F).mono ?_);rintro er u1 ⟨rfl,f1⟩)))
       go_meet
       exact ⟨_,_,_,rfl,rfl,rfl,by rw [ho0];simp [hp,nP256],by rw [hk0];exact f1.blk bK id,F.trans f1⟩
      ·have ep:¬ ((⟨tc.toArray⟩:ByteArray)=⟨#[80,45,50,53,54]⟩):=fun e=>hp ((ba_inj (b:=nP256)).1 e)
       go_wp2_with (first|(refine ldJ rfl _ rfl w.heap.size rfl (F.blk b1 id) rfl ?_)|(go_at_call 45;((with_reducible refine (HTc.out _ F).mono ?_);rintro er u1 ⟨rfl,f1⟩)))
       go_meet
       exact ⟨_,_,_,rfl,rfl,rfl,by rw [ho0];have hp':tc≠[80,45,50,53,54]:=hp;simp [hp',nP256],by rw [hk0];exact f1.blk bK id,F.trans f1⟩
   ·have e1:¬ ((⟨tk.toArray⟩:ByteArray)=⟨#[69,67]⟩):=fun e=>h1 ((ba_inj (b:=nEc)).1 e)
    by_cases h2:tk=nOct
    ·have e2:(⟨tk.toArray⟩:ByteArray)=⟨#[111,99,116]⟩:=by rw [h2];rfl
     have hk0:K0=⟨2,[],[],[],[],[],[],yk⟩:=by rw [HK0.out,if_neg h0,if_neg h1,if_pos h2]
     have ho0:O0=(tki&&qk):=by rw [HO0.out,if_neg h0,if_neg h1,if_pos h2]
     clear HK0 HO0 h0 h1 h2 e0 e1
     have e0:¬ ((⟨#[111,99,116]⟩:ByteArray)=⟨#[82,83,65]⟩):=by decide
     have e1:¬ ((⟨#[111,99,116]⟩:ByteArray)=⟨#[69,67]⟩):=by decide
     obtain ⟨c0,c1,c2,c3,c4,c5,c6,c7⟩:=dkey_cells bK
     have zf:=bK.frozen 0
     go_upto_region 20 with fail
     have bK2:Blk (u1.setCell ⟨w1.heap.size,0,none⟩ (.int .i64 2)) w1.heap.size 27 (kyC ⟨2,[],[],[],[],[],[],[]⟩):=bK.set_ 0 (.int .i64 2)
     have F2:=F.setCell_new (p:=⟨w1.heap.size,0,none⟩) (Nat.le_refl _) (.int .i64 2)
     clear c0 c1 c2 c3 c4 c5 c6 c7 zf bK F
     generalize u1.setCell ⟨w1.heap.size,0,none⟩ (.int .i64 2)=u2 at *
     have bK:=bK2
     have F:=F2
     clear bK2 F2
     go_wp2_with (first|(refine ldJ rfl _ rfl w.heap.size rfl (F.blk b1 id) rfl ?_)|(go_at_call 46;((with_reducible refine (HBk.out _ F).mono ?_);rintro er u1 ⟨rfl,f1⟩;obtain ⟨c0,c1,c2,c3,c4,c5,c6,c7⟩:=dkey_cells (f1.blk bK id);have zf:=(f1.blk bK id).frozen 7)))
     go_meet
     exact ⟨_,_,_,rfl,rfl,rfl,by rw [ho0,Bool.and_true],by rw [hk0];exact (f1.blk bK id).set_ 7 (.string ⟨(yk:Bs).toArray⟩),(F.trans f1).setCell_new (p:=⟨w1.heap.size,7,none⟩) (Nat.le_refl _) _⟩
    ·have e2:¬ ((⟨tk.toArray⟩:ByteArray)=⟨#[111,99,116]⟩):=fun e=>h2 ((ba_inj (b:=nOct)).1 e)
     have hk0:K0=kz:=by rw [HK0.out,if_neg h0,if_neg h1,if_neg h2]
     have ho0:O0=false:=by rw [HO0.out,if_neg h0,if_neg h1,if_neg h2,Bool.and_false]
     have l0:(tk==[82,83,65])=false:=by simpa using (show ¬ tk=[82,83,65] from h0)
     have l1:(tk==[69,67])=false:=by simpa using (show ¬ tk=[69,67] from h1)
     have l2:(tk==[111,99,116])=false:=by simpa using (show ¬ tk=[111,99,116] from h2)
     go_wp2_with fail
     go_meet
     exact ⟨_,_,_,rfl,rfl,rfl,by rw [ho0];rfl,by rw [hk0];exact bK,F⟩
 case rest=>
 clear bK F HTk HTc HBn HBe HBx HBy2 HBk HK0 HO0
 obtain ⟨o,a,b,rfl,rfl,rfl,hO,bK,F⟩:=hcut
 obtain ⟨kty,kid,alg,n,e,x,y,sec⟩:=K0
 have hK:K=⟨kty,ti,ta,n,e,x,y,sec⟩:=HRK.out
 subst hK
 clear HRK
 have HOO:=Lib.hid hO
 clear hO
 go_upto_region 22 with (first|(refine ldJ rfl _ rfl w.heap.size rfl (F.blk b1 id) rfl ?_)|(go_at_call 47;((with_reducible refine (HMa.out _ F).mono ?_);rintro er u1 ⟨x1,rfl,h1,f1⟩;obtain ⟨x10,x11,x12,x13,x14,rfl,o1⟩:=h1.form;have n1:=Blk.new u1 31 zj))|(refine wpList_store_row rfl 31 _ _ rfl u1.heap.size #[x10,x11,x12,x13,x14] rfl rfl 31 zj n1 size_json rfl o1 ?_))
 obtain ⟨p1,-⟩:=put_row u1 x10 x11 x12 x13 x14
 have FN:=F.trans (f1.trans p1)
 have bN:=p1.blk (f1.blk bK id) id
 clear p1 n1 h1 o1 f1 bK F
 generalize (u1.alloc (.cells zj 31)).setRow u1.heap.size #[x10,x11,x12,x13,x14]=um at *
 have bK:=bN
 have F:=FN
 clear bN FN
 go_upto_region 23 with (first|(refine ldJ rfl _ rfl w.heap.size rfl (F.blk b1 id) rfl ?_)|(go_at_call 47;((with_reducible refine (HMi.out _ F).mono ?_);rintro er u1 ⟨x1,rfl,h1,f1⟩;obtain ⟨x10,x11,x12,x13,x14,rfl,o1⟩:=h1.form;have n1:=Blk.new u1 31 zj))|(refine wpList_store_row rfl 31 _ _ rfl u1.heap.size #[x10,x11,x12,x13,x14] rfl rfl 31 zj n1 size_json rfl o1 ?_))
 obtain ⟨p1,-⟩:=put_row u1 x10 x11 x12 x13 x14
 have FN:=F.trans (f1.trans p1)
 have bN:=p1.blk (f1.blk bK id) id
 clear p1 n1 h1 o1 f1 bK F
 generalize (u1.alloc (.cells zj 31)).setRow u1.heap.size #[x10,x11,x12,x13,x14]=um at *
 have bK:=bN
 have F:=FN
 clear bN FN
 go_upto_region 24 with (first|(refine ldJ rfl _ rfl w.heap.size rfl (F.blk b1 id) rfl ?_)|(go_at_call 45;((with_reducible refine (HTa.out _ F).mono ?_);rintro er u1 ⟨rfl,f1⟩;obtain ⟨c0,c1,c2,c3,c4,c5,c6,c7⟩:=dkey_cells (f1.blk bK id);have zf:=(f1.blk bK id).frozen 2)))
 have bK2:Blk (u1.setCell ⟨w1.heap.size,2,none⟩ (.string ⟨(ta:Bs).toArray⟩)) w1.heap.size 27 (kyC ⟨kty,kid,ta,n,e,x,y,sec⟩):=(f1.blk bK id).set_ 2 (.string ⟨(ta:Bs).toArray⟩)
 have F2:=(F.trans f1).setCell_new (p:=⟨w1.heap.size,2,none⟩) (Nat.le_refl _) (.string ⟨(ta:Bs).toArray⟩)
 clear c0 c1 c2 c3 c4 c5 c6 c7 zf bK F f1
 generalize u1.setCell ⟨w1.heap.size,2,none⟩ (.string ⟨(ta:Bs).toArray⟩)=u5 at *
 have bK:=bK2
 have F:=F2
 clear bK2 F2
 go_upto_region 25 with (first|(refine ldJ rfl _ rfl w.heap.size rfl (F.blk b1 id) rfl ?_)|(go_at_call 45;((with_reducible refine (HTi.out _ F).mono ?_);rintro er u1 ⟨rfl,f1⟩;obtain ⟨c0,c1,c2,c3,c4,c5,c6,c7⟩:=dkey_cells (f1.blk bK id);have zf:=(f1.blk bK id).frozen 1)))
 have bK2:Blk (u1.setCell ⟨w1.heap.size,1,none⟩ (.string ⟨(ti:Bs).toArray⟩)) w1.heap.size 27 (kyC ⟨kty,ti,ta,n,e,x,y,sec⟩):=(f1.blk bK id).set_ 1 (.string ⟨(ti:Bs).toArray⟩)
 have F2:=(F.trans f1).setCell_new (p:=⟨w1.heap.size,1,none⟩) (Nat.le_refl _) (.string ⟨(ti:Bs).toArray⟩)
 clear c0 c1 c2 c3 c4 c5 c6 c7 zf bK F f1
 generalize u1.setCell ⟨w1.heap.size,1,none⟩ (.string ⟨(ti:Bs).toArray⟩)=u6 at *
 have bK:=bK2
 have F:=F2
 clear bK2 F2
 obtain ⟨c0,c1,c2,c3,c4,c5,c6,c7⟩:=dkey_cells bK
 simp only at c0 c1 c2 c3 c4 c5 c6 c7
 have HX:Hid (OO=((o&&a&&b) && !(ha&&decide (ta=[])) && !(hi&&decide (ti=[]))&&kyOk ⟨kty,ti,ta,n,e,x,y,sec⟩)):=Lib.hid (by rw [HOK.out,HOO.out])
 clear HOK HOO HTa HTi HMa HMi
 generalize kyOk ⟨kty,ti,ta,n,e,x,y,sec⟩=okk at *
 obtain ⟨bad,hbad⟩:∃ b,b = !OO:=⟨_,rfl⟩
 have HBD:=Lib.hid hbad
 clear hbad
 go_cut [134] (fun vb wx=>vb=.bool bad∧Fr NoB u6 wx)
 case first=>
  cases o with
  | false=>
   go_wp2_with fail
   go_meet
   exact ⟨by rw [HBD.out,HX.out];simp [*],Fr.refl _ _⟩
  | true=>
   cases a with
   | false=>
    go_wp2_with fail
    go_meet
    exact ⟨by rw [HBD.out,HX.out];simp [*],Fr.refl _ _⟩
   | true=>
    cases b with
    | false=>
     go_wp2_with fail
     go_meet
     exact ⟨by rw [HBD.out,HX.out];simp [*],Fr.refl _ _⟩
    | true=>
     cases ha with
     | false=>
      cases hi with
      | false=>
       cases okk with
       | false=>
        go_wp2_with (go_at_call 13;((with_reducible refine (HK.out _).mono ?_);rintro er w7 ⟨rfl,f7⟩))
        go_meet
        exact ⟨by rw [HBD.out,HX.out];simp [*],f7⟩
       | true=>
        go_wp2_with (go_at_call 13;((with_reducible refine (HK.out _).mono ?_);rintro er w7 ⟨rfl,f7⟩))
        go_meet
        exact ⟨by rw [HBD.out,HX.out];simp [*],f7⟩
      | true=>
       by_cases hti:ti=[]
       ·have et:(⟨ti.toArray⟩:ByteArray)=⟨#[]⟩:=by rw [hti]
        go_wp2_with fail
        go_meet
        exact ⟨by rw [HBD.out,HX.out];simp [*],Fr.refl _ _⟩
       ·have et:=ne_ba hti
        cases okk with
        | false=>
         go_wp2_with (go_at_call 13;((with_reducible refine (HK.out _).mono ?_);rintro er w7 ⟨rfl,f7⟩))
         go_meet
         exact ⟨by rw [HBD.out,HX.out];simp [*],f7⟩
        | true=>
         go_wp2_with (go_at_call 13;((with_reducible refine (HK.out _).mono ?_);rintro er w7 ⟨rfl,f7⟩))
         go_meet
         exact ⟨by rw [HBD.out,HX.out];simp [*],f7⟩
     | true=>
      by_cases hta:ta=[]
      ·have ea:(⟨ta.toArray⟩:ByteArray)=⟨#[]⟩:=by rw [hta]
       go_wp2_with fail
       go_meet
       exact ⟨by rw [HBD.out,HX.out];simp [*],Fr.refl _ _⟩
      ·have ea:=ne_ba hta
       cases hi with
       | false=>
        cases okk with
        | false=>
         go_wp2_with (go_at_call 13;((with_reducible refine (HK.out _).mono ?_);rintro er w7 ⟨rfl,f7⟩))
         go_meet
         exact ⟨by rw [HBD.out,HX.out];simp [*],f7⟩
        | true=>
         go_wp2_with (go_at_call 13;((with_reducible refine (HK.out _).mono ?_);rintro er w7 ⟨rfl,f7⟩))
         go_meet
         exact ⟨by rw [HBD.out,HX.out];simp [*],f7⟩
       | true=>
        by_cases hti:ti=[]
        ·have et:(⟨ti.toArray⟩:ByteArray)=⟨#[]⟩:=by rw [hti]
         go_wp2_with fail
         go_meet
         exact ⟨by rw [HBD.out,HX.out];simp [*],Fr.refl _ _⟩
        ·have et:=ne_ba hti
         cases okk with
         | false=>
          go_wp2_with (go_at_call 13;((with_reducible refine (HK.out _).mono ?_);rintro er w7 ⟨rfl,f7⟩))
          go_meet
          exact ⟨by rw [HBD.out,HX.out];simp [*],f7⟩
         | true=>
          go_wp2_with (go_at_call 13;((with_reducible refine (HK.out _).mono ?_);rintro er w7 ⟨rfl,f7⟩))
          go_meet
          exact ⟨by rw [HBD.out,HX.out];simp [*],f7⟩
 case rest=>
 obtain ⟨rfl,f7⟩:=hcut
 have F7:=F.trans f7
 have bK7:=f7.blk bK id
 have bR:=F7.blk bk1 id
 clear c0 c1 c2 c3 c4 c5 c6 c7 bK F f7
 have honek:=one_key ⟨kty,ti,ta,n,e,x,y,sec⟩
 cases hb:OO with
 | true=>
  have hbf:bad=false:=by rw [HBD.out,hb];rfl
  subst hbf
  obtain rfl:res=some ⟨kty,ti,ta,n,e,x,y,sec⟩:=by rw [HRO.out,hb];rfl
  go_wp2_with (first|(refine ldK rfl _ rfl w1.heap.size rfl bK7 rfl ?_)|(refine wpList_store_row rfl 27 _ _ rfl (w.heap.size+1) (kyC ⟨kty,ti,ta,n,e,x,y,sec⟩) rfl rfl 27 _ bR size_key rfl honek ?_))
  exact bodyPost_ret (v:=.tuple #[.agg (kyC ⟨kty,ti,ta,n,e,x,y,sec⟩),.int .i64 0]) (key_back rfl _ _ (w.heap.size+1) ⟨kty,ti,ta,n,e,x,y,sec⟩ _ rfl rfl (bR.setRow _)) rfl ⟨rfl,(F1.trans F7).setRow (w.heap.size+1) _ (Or.inl (by omega))⟩
 | false=>
  have hbf:bad=true:=by rw [HBD.out,hb];rfl
  subst hbf
  obtain rfl:res=none:=by rw [HRO.out,hb];rfl
  go_wp2_with (refine wpList_store_row rfl 27 _ _ rfl (w.heap.size+1) zk rfl rfl 27 _ bR size_key rfl honez ?_)
  exact bodyPost_ret (v:=.tuple #[.agg (kyC kz),.int .i64 100]) (key_back rfl _ _ (w.heap.size+1) kz _ rfl rfl (bR.setRow zk)) rfl ⟨rfl,(F1.trans F7).setRow (w.heap.size+1) _ (Or.inl (by omega))⟩
end Go.Proofs.YtbifjamddbpcjaaGreatDoor
