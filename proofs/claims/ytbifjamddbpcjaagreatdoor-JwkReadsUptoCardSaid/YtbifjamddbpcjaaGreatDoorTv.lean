/- Keys. -/
import Derived.Test.YtbifjamddbpcjaaGreatDoorDr
import Derived.Deep.MidRow
namespace Go.Proofs.YtbifjamddbpcjaaGreatDoor
set_option maxRecDepth 100000
set_option maxHeartbeats 25600000
open Go.RowKit
theorem dksame_any (l:List Ky) (va vb:Value) (w:World) (hl:l.length≤1000) (ha:InMem (All w) w va l.length (kyCs l)) (hb:InMem (All w) w vb l.length (kyCs l)) :
  Calls Tryz.prog 20 #[va,vb] w fun e w'=>e=.returned (.bool true)∧Fr NoB w w':=by
 obtain ⟨aa,ca,rfl⟩:=ha.sl
 obtain ⟨ab,cb,rfl⟩:=hb.sl
 have HA:=Lib.hid (And.intro ha hb)
 clear ha hb
 go_enter Tryz.func20,Tryz.ntmps20
 go_wp2_with fail
 go_loopw [5] (fun v wr=>∃ m:Nat,m≤l.length∧v=.int .i64 m∧Fr NoB w wr) (fun v _=>l.length - (intOf v).toNat)
 case atStart=>exact ⟨0,Nat.zero_le _,rfl,Fr.refl _ _⟩
 case round=>
  obtain ⟨m,hm,rfl,hf⟩:=hrel
  by_cases hlt:m<l.length
  ·obtain ⟨ga,oa,rfl,ha⟩:=HA.out.1.at_ hf (by omega)
   obtain ⟨gb,ob,rfl,hb⟩:=HA.out.2.at_ hf (by omega)
   have ca:∀ (j:Nat) u,j<8→(kyC l[m])[j]?=some u→wr.cell? ⟨ga,oa+(m*8+j),none⟩=some u:=fun j u hj hu=>ha _ _ ((kyCs_get l m hlt j hj).trans hu)
   have cb:∀ (j:Nat) u,j<8→(kyC l[m])[j]?=some u→wr.cell? ⟨gb,ob+(m*8+j),none⟩=some u:=fun j u hj hu=>hb _ _ ((kyCs_get l m hlt j hj).trans hu)
   generalize l[m]=q at ca cb
   clear ha hb
   have HE:=key_same q
   obtain ⟨kty,kid,alg,n,e,x,y,sec⟩:=q
   have a0:wr.cell? ⟨ga,oa+m*8,none⟩=some (.int .i64 kty):=ca 0 _ (by omega) rfl
   have a1:wr.cell? ⟨ga,oa+m*8+1,none⟩=some (.string ⟨kid.toArray⟩):=ca 1 _ (by omega) rfl
   have a2:wr.cell? ⟨ga,oa+m*8+2,none⟩=some (.string ⟨alg.toArray⟩):=ca 2 _ (by omega) rfl
   have a3:wr.cell? ⟨ga,oa+m*8+3,none⟩=some (.string ⟨n.toArray⟩):=ca 3 _ (by omega) rfl
   have a4:wr.cell? ⟨ga,oa+m*8+4,none⟩=some (.string ⟨e.toArray⟩):=ca 4 _ (by omega) rfl
   have a5:wr.cell? ⟨ga,oa+m*8+5,none⟩=some (.string ⟨x.toArray⟩):=ca 5 _ (by omega) rfl
   have a6:wr.cell? ⟨ga,oa+m*8+6,none⟩=some (.string ⟨y.toArray⟩):=ca 6 _ (by omega) rfl
   have a7:wr.cell? ⟨ga,oa+m*8+7,none⟩=some (.string ⟨sec.toArray⟩):=ca 7 _ (by omega) rfl
   have b0:wr.cell? ⟨gb,ob+m*8,none⟩=some (.int .i64 kty):=cb 0 _ (by omega) rfl
   have b1:wr.cell? ⟨gb,ob+m*8+1,none⟩=some (.string ⟨kid.toArray⟩):=cb 1 _ (by omega) rfl
   have b2:wr.cell? ⟨gb,ob+m*8+2,none⟩=some (.string ⟨alg.toArray⟩):=cb 2 _ (by omega) rfl
   have b3:wr.cell? ⟨gb,ob+m*8+3,none⟩=some (.string ⟨n.toArray⟩):=cb 3 _ (by omega) rfl
   have b4:wr.cell? ⟨gb,ob+m*8+4,none⟩=some (.string ⟨e.toArray⟩):=cb 4 _ (by omega) rfl
   have b5:wr.cell? ⟨gb,ob+m*8+5,none⟩=some (.string ⟨x.toArray⟩):=cb 5 _ (by omega) rfl
   have b6:wr.cell? ⟨gb,ob+m*8+6,none⟩=some (.string ⟨y.toArray⟩):=cb 6 _ (by omega) rfl
   have b7:wr.cell? ⟨gb,ob+m*8+7,none⟩=some (.string ⟨sec.toArray⟩):=cb 7 _ (by omega) rfl
   clear ca cb
   have i1:(0:Int)≤m:=by omega
   have i2:(m:Int)<l.length:=by omega
   go_wp2_with fail
   go_quiet (fail)
   go_wp2_with fail
   go_roundw
   case rel=>exact ⟨m+1,by omega,by simp,hf.drewN _⟩
   case measure=>simp [intOf];omega
  ·obtain rfl:m=l.length:=by omega
   go_wp2_with fail
   go_ret
   exact ⟨rfl,hf⟩
theorem dinmem_zero {S:Nat→Prop} {w:World} {g n c:Nat} {cs:List Value} (hg:S g) (h:∀ (i:Nat) u,cs[i]?=some u→w.cell? ⟨g,i,none⟩=some u):InMem S w (.slice (some ⟨g,0,none⟩) n c) n cs:=
 Or.inr ⟨g,0,c,rfl,hg,fun i u hu=>by rw [Nat.zero_add];exact h i u hu⟩
theorem Fr.setCells {S:Nat→Prop} {a:World} (b:Nat) (hb:a.heap.size≤b∨S b):∀ (vs:List Value) (o:Nat) {w:World},Fr S a w→Fr S a (w.setCells b o vs)
 | [],_,_,h=>h
 | v::r,o,w,h=>by
  rw [World.setCells]
  refine Fr.setCells b hb r (o+1) ?_
  rcases hb with hb|hb
  ·exact h.setCell_new (p:=⟨b,o,none⟩) hb v
  ·exact h.setCell (p:=⟨b,o,none⟩) hb v
theorem setGo_len:∀ (L:List Jv) (out l:List Ky),setGo out L=some l→l.length=out.length+L.length
 | [],out,l,h=>by
  rw [setGo] at h
  cases h;simp
 | x::r,out,l,h=>by
  cases hq:ofK x with
  | none=>rw [setGo_none hq] at h;cases h
  | some q=>
   rw [setGo_some hq] at h
   split at h
   ·cases h
   ·have:=setGo_len r (out++[q]) l h
    simp at this ⊢
    omega
theorem set_len {j:Jv} {l:List Ky} (h:setK j=some l):l.length≤1000:=by
 rw [setK] at h
 split at h
 ·cases hg:gotP j nKeys with
  | none=>rw [hg] at h;cases h
  | some x=>
   rw [hg] at h
   simp only at h
   split at h
   ·rename_i hh
    have:=setGo_len _ _ _ h
    simp at this
    omega
   ·cases h
 ·cases h
theorem kyCs_cell (l:List Ky) (i:Nat) (h:i<l.length*8):∃ x,(kyCs l)[i]?=some x:=by
 have:=kyCs_len l
 exact ⟨_,List.getElem?_eq_getElem (by omega)⟩
theorem kreads_walk {B:Nat} (j:Jv) (v0 v1 v2 v3 v4:Value) (w:World) (hx:Cx B w) (hat:RAt (All w) w j (.agg #[v0,v1,v2,v3,v4])) (hsz:szJ j≤8388608) :
  Calls Tryz.prog 4 #[.agg #[v0,v1,v2,v3,v4]] w fun e w'=>e=.returned (.bool true)∧Fr NoB w w':=by
 have HO1:Hid (∀ u,Fr NoB w u→Calls Tryz.prog 16 #[.agg #[v0,v1,v2,v3,v4]] u fun e w'=>e=.returned (.tuple #[.agg (kyC ((ofK j).getD kz)),.int .i64 (if (ofK j).isSome then 0 else 100)])∧Fr NoB u w'):=Lib.hid (fun u f=>of_key_any j _ u (hx.fr0 f) (hat.all f) hsz (JSm_of j hsz))
 have HO2:Hid (∀ u,Fr NoB w u→Calls Tryz.prog 17 #[.agg #[v0,v1,v2,v3,v4]] u fun e w'=>e=.returned (.tuple #[.agg (kyC ((ofK j).getD kz)),.int .i64 (if (ofK j).isSome then 0 else 100)])∧Fr NoB u w'):=Lib.hid (fun u f=>dof_any j _ u (hat.all f) hsz)
 have hel:∀ l,gotP j nKeys=some l→∀ x∈l.list,szJ x≤8388608:=fun l hl x hx=>by
  have h1:=got_sz hl
  have h2:=szL_in hx
  obtain ⟨k,i,t,ll,ks⟩:=l
  simp only [szJ,Jv.list] at h1 h2
  omega
 have HS1:Hid (∀ u,Fr NoB w u→Calls Tryz.prog 18 #[.agg #[v0,v1,v2,v3,v4]] u fun e w'=>SetIs (setK j) u e w'∧Fr NoB u w'):=Lib.hid (fun u f=>kset_any j _ u (hx.fr0 f) (hat.all f) (JSm_of j hsz) hel)
 have HS2:Hid (∀ u,Fr NoB w u→Calls Tryz.prog 19 #[.agg #[v0,v1,v2,v3,v4]] u fun e w'=>DSetIs (setK j) u e w'∧Fr NoB u w'):=Lib.hid (fun u f=>dset_any j _ u (hat.all f) hsz)
 have HFx:Hid (∀ u,Fr NoB w u→Calls Tryz.prog 15 #[] u fun e w'=>e=.returned (.bool true)∧Fr NoB u w'):=Lib.hid (fun u f=>kfixed_any u (hx.fr0 f))
 have hlen:∀ l,setK j=some l→l.length≤1000:=fun l hl=>set_len hl
 have bV:=Blk.new w 31 #[v0,v1,v2,v3,v4]
 have f0:Fr NoB w (w.alloc (.cells #[v0,v1,v2,v3,v4] 31)):=(Fr.refl _ _).alloc _
 clear hx hat hsz hel
 generalize (ofK j).getD kz=q at *
 generalize (if (ofK j).isSome then (0:Int) else 100)=ei at *
 generalize setK j=res at *
 have honek:=one_key q
 go_enter Tryz.func4,Tryz.ntmps4
 go_upto_region 1 with fail
 generalize w.alloc (.cells #[v0,v1,v2,v3,v4] 31)=W at *
 have HO1a:=Lib.hid (HO1.out W f0)
 go_upto_region 2 with (first|(refine ldJ rfl _ rfl w.heap.size rfl bV rfl ?_)|(go_at_call 16;((with_reducible refine HO1a.out.mono ?_);rintro er w1 ⟨rfl,f1⟩;have n1:=Blk.new w1 27 zk))|(refine wpList_store_row rfl 27 _ _ rfl w1.heap.size (kyC q) rfl rfl 27 _ n1 size_key rfl honek ?_))
 obtain ⟨p1,bk1⟩:=dput_key w1 q
 have F1:=f1.trans p1
 have G1:=f0.trans F1
 have bV1:=F1.blk bV id
 clear n1 p1 f1 F1 HO1 HO1a bV
 generalize (w1.alloc (.cells zk 27)).setRow w1.heap.size (kyC q)=U1 at *
 have HO2a:=Lib.hid (HO2.out U1 G1)
 go_upto_region 3 with (first|(refine ldJ rfl _ rfl w.heap.size rfl bV1 rfl ?_)|(go_at_call 17;((with_reducible refine HO2a.out.mono ?_);rintro er w2 ⟨rfl,f2⟩;have n2:=Blk.new w2 27 zk))|(refine wpList_store_row rfl 27 _ _ rfl w2.heap.size (kyC q) rfl rfl 27 _ n2 size_key rfl honek ?_))
 obtain ⟨p2,bk2⟩:=dput_key w2 q
 have F2:=f2.trans p2
 have G2:=G1.trans F2
 have bV2:=F2.blk bV1 id
 have bk1b:=F2.blk bk1 id
 clear n2 p2 f2 F2 HO2 HO2a bV1 bk1 G1
 generalize (w2.alloc (.cells zk 27)).setRow w2.heap.size (kyC q)=U2 at *
 have HS1a:=Lib.hid (HS1.out U2 G2)
 have HE:∀ u,(Op.equalIn 10000 27 (.agg #[.int .i64 q.kty,.string ⟨q.kid.toArray⟩,.string ⟨q.alg.toArray⟩,.string ⟨q.n.toArray⟩,.string ⟨q.e.toArray⟩,.string ⟨q.x.toArray⟩,.string ⟨q.y.toArray⟩,.string ⟨q.sec.toArray⟩]) (.agg #[.int .i64 q.kty,.string ⟨q.kid.toArray⟩,.string ⟨q.alg.toArray⟩,.string ⟨q.n.toArray⟩,.string ⟨q.e.toArray⟩,.string ⟨q.x.toArray⟩,.string ⟨q.y.toArray⟩,.string ⟨q.sec.toArray⟩])).run Tryz.prog u=.ok true u:=key_same q
 cases res with
 | none=>
  have HSM:Hid (∀ u,Calls Tryz.prog 20 #[.slice none 0 0,.slice none 0 0] u fun e w'=>e=.returned (.bool true)∧Fr NoB u w'):=Lib.hid (fun u=>dksame_any [] _ _ u (by simp) (Or.inl ⟨rfl,_,_,rfl⟩) (Or.inl ⟨rfl,_,_,rfl⟩))
  clear hlen
  go_upto_region 4 with (first|(refine ldJ rfl _ rfl w.heap.size rfl bV2 rfl ?_)|(go_at_call 18;((with_reducible refine HS1a.out.mono ?_);rintro er w3 ⟨he,f3⟩;obtain rfl:=he)))
  have bV3:=f3.blk bV2 id
  have bk1c:=f3.blk bk1b id
  have bk2c:=f3.blk bk2 id
  have G3:=G2.trans f3
  have HS2a:=Lib.hid (HS2.out w3 G3)
  clear bV2 bk1b bk2 f3 HS1a HS2
  go_upto_region 6 with (first|(refine ldJ rfl _ rfl w.heap.size rfl bV3 rfl ?_)|(go_at_call 19;((with_reducible refine HS2a.out.mono ?_);rintro er w4 ⟨he,f4⟩;obtain rfl:=he))|(go_at_call 20;((with_reducible refine (HSM.out _).mono ?_);rintro er w5 ⟨rfl,f5⟩)))
  have F5:=f4.trans f5
  have bV5:=F5.blk bV3 id
  have bk1d:=F5.blk bk1c id
  have bk2d:=F5.blk bk2c id
  have G5:=G3.trans F5
  clear bV3 bk1c bk2c f4 f5 F5 HS2a G3
  have HS1b:=Lib.hid (HS1.out w5 G5)
  clear HS1
  go_wp2_with fail
  go_loopw [12] (fun v12 wr=>v12=.int .i64 0∧wr=w5) (fun _ _=>0)
  case atStart=>exact ⟨rfl,rfl⟩
  case round=>
   obtain ⟨rfl,rfl⟩:=hrel
   go_upto_region 11 with (first|(refine ldJ rfl _ rfl w.heap.size rfl bV5 rfl ?_)|(go_at_call 18;((with_reducible refine HS1b.out.mono ?_);rintro er w6 ⟨he,f6⟩;obtain rfl:=he)))
   have G6:=G5.trans f6
   have bk1e:=f6.blk bk1d id
   have bk2e:=f6.blk bk2d id
   have HFa:Hid (∀ u,Fr NoB w6 u→Calls Tryz.prog 15 #[] u fun e w'=>e=.returned (.bool true)∧Fr NoB u w'):=Lib.hid (fun u f=>HFx.out u (G6.trans f))
   clear bV5 bk1d bk2d HS1b HFx G5 f6 f0 G2
   go_wp2_with (first|(refine ldK rfl _ rfl w1.heap.size rfl bk1e rfl ?_)|(refine ldK rfl _ rfl w2.heap.size rfl bk2e rfl ?_)|(go_at_call 20;((with_reducible refine (HSM.out _).mono ?_);rintro er w7 ⟨rfl,f7⟩))|(go_at_call 15;((with_reducible refine (HFa.out _ f7).mono ?_);rintro er w8 ⟨rfl,f8⟩)))
   go_ret
   exact ⟨by simp,(G6.trans f7).trans f8⟩
 | some l=>
  have hl:=hlen l rfl
  have HLE:=Lib.hid hl
  have hl0:=bV2.lt
  have hl1:=bk1b.lt
  have hl2:=bk2.lt
  clear hlen hl
  go_upto_region 4 with (first|(refine ldJ rfl _ rfl w.heap.size rfl bV2 rfl ?_)|(go_at_call 18;((with_reducible refine HS1a.out.mono ?_);rintro er w3 ⟨he,f3⟩;obtain ⟨g,rfl,hpos,hg1,hg2,hcell,hfz⟩:=he)))
  have bV3:=f3.blk bV2 id
  have bk1c:=f3.blk bk1b id
  have bk2c:=f3.blk bk2 id
  have G3:=G2.trans f3
  have HS2a:=Lib.hid (HS2.out w3 G3)
  have F23:=f3
  clear bV2 bk1b bk2 f3 HS1a HS2
  go_upto_region 5 with (first|(refine ldJ rfl _ rfl w.heap.size rfl bV3 rfl ?_)|(go_at_call 19;((with_reducible refine HS2a.out.mono ?_);rintro er w4 ⟨he,f4⟩;obtain ⟨g2,c2,rfl,hpos2,hg3,hg4,hcell2⟩:=he)))
  have HM4:Hid (∀ u,Fr NoB w4 u→∀ (i:Nat) x,(kyCs l)[i]?=some x→u.cell? ⟨g2,i,none⟩=some x):=Lib.hid (fun u f i x h=>(f.cell (p:=⟨g2,i,none⟩) hg4 id).trans (hcell2 i x h))
  have HM3:Hid (∀ u,Fr NoB w3 u→(∀ (i:Nat) x,(kyCs l)[i]?=some x→u.cell? ⟨g,i,none⟩=some x)∧∀ i,u.frozen? ⟨g,i,none⟩=false):=Lib.hid (fun u f=>⟨fun i x h=>(f.cell (p:=⟨g,i,none⟩) hg2 id).trans (hcell i x h),fun i=>(World.frozen?_of_block (w:=w3) (f.block g hg2 id)).trans (hfz i)⟩)
  have HSMa:Hid (∀ u,Fr NoB w4 u→Calls Tryz.prog 20 #[.slice (some ⟨g,0,none⟩) l.length l.length,.slice (some ⟨g2,0,none⟩) l.length c2] u fun e w'=>e=.returned (.bool true)∧Fr NoB u w'):=Lib.hid (fun u f=>dksame_any l _ _ u HLE.out (dinmem_zero (Nat.lt_of_lt_of_le hg2 (f4.trans f).size) (HM3.out u (f4.trans f)).1) (dinmem_zero (Nat.lt_of_lt_of_le hg4 f.size) (HM4.out u f)))
  clear hcell hcell2 hfz
  have bV4:=f4.blk bV3 id
  have bk1d:=f4.blk bk1c id
  have bk2d:=f4.blk bk2c id
  have G4:=G3.trans f4
  have hne:g2≠g:=by omega
  go_upto_region 6 with (go_at_call 20;((with_reducible refine (HSMa.out _ (Fr.refl _ _)).mono ?_);rintro er w5 ⟨rfl,f5⟩))
  have bV5:=f5.blk bV4 id
  have bk1e:=f5.blk bk1d id
  have bk2e:=f5.blk bk2d id
  have f35:=f4.trans f5
  have hsz5:=f35.size
  have HM5:Hid (∀ (i:Nat) x,(kyCs l)[i]?=some x→w5.cell? ⟨g2,i,none⟩=some x):=Lib.hid (HM4.out w5 f5)
  have hth0:w5.there g 0 (l.length*8):=fun j hj=>by
   obtain ⟨x,hx⟩:=kyCs_cell l j hj
   rw [Nat.zero_add,(HM3.out w5 f35).1 j x hx,(HM3.out w5 f35).2 j]
   exact ⟨rfl,rfl⟩
  have FU0:Fr NoB U2 w5:=F23.trans f35
  have hg25:g2<w5.heap.size:=Nat.lt_of_lt_of_le hg4 f5.size
  clear bV4 bk1d bk2d bk1c bk2c bV3 f4 f5 f35 HM3 HM4 HSMa HS2a G4 G3 hpos hpos2
  have HG:=Lib.hid (And.intro hg1 (And.intro hne (And.intro hg2 hg25)))
  have HLT:=Lib.hid (And.intro hl0 (And.intro hl1 hl2))
  clear hne hl0 hl1 hl2 hg25 hg4 hg3
  go_wp2_with fail
  go_loopw [12] (fun v12 wr=>∃ p:Nat,p≤l.length∧v12=.int .i64 p∧wr.there g 0 (l.length*8)∧Fr NoB U2 wr∧Fr (Only g) w5 wr) (fun v12 _=>l.length - (intOf v12).toNat)
  case atStart=>exact ⟨0,Nat.zero_le _,rfl,hth0,FU0,Fr.refl _ _⟩
  case round=>
   clear hth0 FU0
   obtain ⟨p,hp,rfl,hth,FU,FO⟩:=hrel
   by_cases hlt:p<l.length
   ·have k1:(0:Int)≤p:=by omega
    have k2:(p:Int)<l.length:=by omega
    have hgU:=HG.out.1
    have hle9:=HLE.out
    have h0:=hth (p*8) (by omega)
    have h1:=hth (p*8+1) (by omega)
    have h2:=hth (p*8+2) (by omega)
    have h3:=hth (p*8+3) (by omega)
    have h4:=hth (p*8+4) (by omega)
    have h5:=hth (p*8+5) (by omega)
    have h6:=hth (p*8+6) (by omega)
    have h7:=hth (p*8+7) (by omega)
    simp only [Nat.zero_add] at h0 h1 h2 h3 h4 h5 h6 h7
    obtain ⟨x0,d0⟩:=Option.isSome_iff_exists.1 h0.1
    obtain ⟨x1,d1⟩:=Option.isSome_iff_exists.1 h1.1
    obtain ⟨x2,d2⟩:=Option.isSome_iff_exists.1 h2.1
    obtain ⟨x3,d3⟩:=Option.isSome_iff_exists.1 h3.1
    obtain ⟨x4,d4⟩:=Option.isSome_iff_exists.1 h4.1
    obtain ⟨x5,d5⟩:=Option.isSome_iff_exists.1 h5.1
    obtain ⟨x6,d6⟩:=Option.isSome_iff_exists.1 h6.1
    obtain ⟨x7,d7⟩:=Option.isSome_iff_exists.1 h7.1
    have t0:=h0.2
    have t1:=h1.2
    have t2:=h2.2
    have t3:=h3.2
    have t4:=h4.2
    have t5:=h5.2
    have t6:=h6.2
    have t7:=h7.2
    have HTH:=Lib.hid hth
    have HFU:=Lib.hid FU
    have HFO:=Lib.hid FO
    clear h0 h1 h2 h3 h4 h5 h6 h7 hth FU FO
    go_wp2_with fail
    have hSet:(((((((wr.setCell ⟨g,p*8,none⟩ (.int .i64 0)).setCell ⟨g,p*8+1,none⟩ (.string ⟨#[]⟩)).setCell ⟨g,p*8+2,none⟩ (.string ⟨#[]⟩)).setCell ⟨g,p*8+3,none⟩ (.string ⟨#[]⟩)).setCell ⟨g,p*8+4,none⟩ (.string ⟨#[]⟩)).setCell ⟨g,p*8+5,none⟩ (.string ⟨#[]⟩)).setCell ⟨g,p*8+6,none⟩ (.string ⟨#[]⟩)).setCell ⟨g,p*8+7,none⟩ (.string ⟨#[]⟩)=wr.setCells g (p*8) [.int .i64 0,.string ⟨#[]⟩,.string ⟨#[]⟩,.string ⟨#[]⟩,.string ⟨#[]⟩,.string ⟨#[]⟩,.string ⟨#[]⟩,.string ⟨#[]⟩]:=rfl
    rw [hSet]
    go_roundw
    case rel=>exact ⟨p+1,by omega,by simp,World.there_setCells HTH.out _ _ _,Fr.setCells g (Or.inl hgU) _ _ HFU.out,Fr.setCells (S:=Only g) g (Or.inr rfl) _ _ HFO.out⟩
    case measure=>(first|(simp [intOf];done)|(simp [intOf]<;>omega))
   ·obtain rfl:p=l.length:=by omega
    obtain ⟨hgU,hne,hg3,hg25⟩:=HG.out
    obtain ⟨hl0,hl1,hl2⟩:=HLT.out
    have bV6:=FO.blk bV5 (fun (e:w.heap.size=g)=>by omega)
    have bk1f:=FO.blk bk1e (fun (e:w1.heap.size=g)=>by omega)
    have bk2f:=FO.blk bk2e (fun (e:w2.heap.size=g)=>by omega)
    have G6:=G2.trans FU
    have HM6:Hid (∀ u,Fr NoB wr u→∀ (i:Nat) x,(kyCs l)[i]?=some x→u.cell? ⟨g2,i,none⟩=some x):=Lib.hid (fun u f i x h=>(f.cell (p:=⟨g2,i,none⟩) (Nat.lt_of_lt_of_le hg25 FO.size) id).trans ((FO.cell (p:=⟨g2,i,none⟩) hg25 (fun (e:g2=g)=>hne e)).trans (HM5.out i x h)))
    have hg26:g2<wr.heap.size:=Nat.lt_of_lt_of_le hg25 FO.size
    have HS1b:=Lib.hid (HS1.out wr G6)
    clear HM5 HS1 FU FO hth bV5 bk1e bk2e HG HLT
    go_upto_region 11 with (first|(refine ldJ rfl _ rfl w.heap.size rfl bV6 rfl ?_)|(go_at_call 18;((with_reducible refine HS1b.out.mono ?_);rintro er w6 ⟨he,f6⟩;obtain ⟨g3,rfl,hpos3,hg7,hg8,hcell3,hfz3⟩:=he)))
    have G7:=G6.trans f6
    have bk1g:=f6.blk bk1f id
    have bk2g:=f6.blk bk2f id
    have HSMb:Hid (∀ u,Fr NoB w6 u→Calls Tryz.prog 20 #[.slice (some ⟨g3,0,none⟩) l.length l.length,.slice (some ⟨g2,0,none⟩) l.length c2] u fun e w'=>e=.returned (.bool true)∧Fr NoB u w'):=Lib.hid (fun u f=>dksame_any l _ _ u HLE.out (dinmem_zero (Nat.lt_of_lt_of_le hg8 f.size) (fun i x h=>(f.cell (p:=⟨g3,i,none⟩) hg8 id).trans (hcell3 i x h))) (dinmem_zero (Nat.lt_of_lt_of_le hg26 (f6.trans f).size) (HM6.out u (f6.trans f))))
    have HFa:Hid (∀ u,Fr NoB w6 u→Calls Tryz.prog 15 #[] u fun e w'=>e=.returned (.bool true)∧Fr NoB u w'):=Lib.hid (fun u f=>HFx.out u (G7.trans f))
    clear bV6 bk1f bk2f HS1b HFx f6 G6 hcell3 hfz3 HM6 G2
    go_wp2_with (first|(refine ldK rfl _ rfl w1.heap.size rfl bk1g rfl ?_)|(refine ldK rfl _ rfl w2.heap.size rfl bk2g rfl ?_)|(go_at_call 20;((with_reducible refine (HSMb.out _ (Fr.refl _ _)).mono ?_);rintro er w7 ⟨rfl,f7⟩))|(go_at_call 15;((with_reducible refine (HFa.out _ f7).mono ?_);rintro er w8 ⟨rfl,f8⟩)))
    go_ret
    exact ⟨by simp,(G7.trans f7).trans f8⟩
end Go.Proofs.YtbifjamddbpcjaaGreatDoor
