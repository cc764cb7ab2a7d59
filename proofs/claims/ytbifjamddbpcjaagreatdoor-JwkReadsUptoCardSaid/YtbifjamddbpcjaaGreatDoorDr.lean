/- Keys. -/
import Derived.Test.YtbifjamddbpcjaaGreatDoorDq
import Derived.Test.YtbifjamddbpcjaaGreatDoorYm
namespace Go.Proofs.YtbifjamddbpcjaaGreatDoor
set_option maxRecDepth 100000
set_option maxHeartbeats 25600000
open Go.RowKit
def DSetIs (o:Option (List Ky)) (w:World) (e:Ending) (w':World):Prop:=match o with
 | none=>e=.returned (.tuple #[.slice none 0 0,.int .i64 101])
 | some l=>∃ g c,e=.returned (.tuple #[.slice (some ⟨g,0,none⟩) l.length c,.int .i64 0])∧0<l.length∧w.heap.size≤g∧g<w'.heap.size∧(∀ (i:Nat) u,(kyCs l)[i]?=some u→w'.cell? ⟨g,i,none⟩=some u)
theorem keyown_sl {w:World} {lo n:Nat} {v:Value} {xs:List Value} (h:w.ownsRow lo 27 8 v n xs):∃ ao c,v=.slice ao n c:=by
 rcases h.2 with ⟨e,h0⟩|⟨g,cap,cur,e,_⟩
 ·exact ⟨none,0,by rw [e,h0]⟩
 ·exact ⟨_,_,e⟩
theorem dset_any (j:Jv) (v:Value) (w:World) (hat:RAt (All w) w j v) (hsz0:szJ j≤8388608) :
  Calls Tryz.prog 19 #[v] w fun e w'=>DSetIs (setK j) w e w'∧Fr NoB w w':=by
 have hel:∀ l,gotP j nKeys=some l→∀ x∈l.list,szJ x≤8388608:=fun l hl x hx=>by
  have h1:=got_sz hl
  have h2:=szL_in hx
  obtain ⟨k,i,t,ll,ks⟩:=l
  simp only [szJ,Jv.list] at h1 h2
  omega
 obtain ⟨v0,v1,v2,v3,v4,rfl,hone⟩:=hat.form
 have HC:Hid (∀ u,Fr NoB w u→Calls Tryz.prog 44 #[.agg #[v0,v1,v2,v3,v4]] u fun e w'=>e=.returned (.int .i64 (checkP 0 j:Int))∧Fr NoB u w'):=Lib.hid (fun u f=>rCheck_any (All u) j _ u (fun _ h=>h) (hat.all f) (JSd_of j hsz0))
 have b0:=Blk.new w 31 #[v0,v1,v2,v3,v4]
 have f0:Fr NoB w (w.alloc (.cells #[v0,v1,v2,v3,v4] 31)):=(Fr.refl _ _).alloc _
 have hok:checkP 0 j=0→JvOk j:=fun h=>by
  obtain ⟨k,i,t,l,ks⟩:=j
  exact fun h6=>((form_kind (form_of 0 k i t l ks h).1).2.2 h6).1
 have HG:Hid (checkP 0 j=0→∀ u,Fr NoB w u→Calls Tryz.prog 47 #[.agg #[v0,v1,v2,v3,v4],.string ⟨#[107,101,121,115]⟩] u fun e w'=>∃ x,e=.returned (.tuple #[x,.bool (gotP j nKeys).isSome])∧RAt (All u) w' ((gotP j nKeys).getD Jv.nul) x∧Fr NoB u w'):=Lib.hid (fun h u f=>dmember_any (All u) j _ nKeys u (fun _ h=>h) (hat.all f) (hok h))
 have HC1:=Lib.hid (HC.out _ f0)
 clear hat hok HC hsz0
 by_cases hc:checkP 0 j=0
 ·have HG1:=Lib.hid (HG.out hc)
  rw [hc] at HC1
  have HEL:Hid (∀ x∈((gotP j nKeys).getD Jv.nul).list,szJ x≤8388608):=Lib.hid (by
   cases hg:gotP j nKeys with
   | none=>intro x hx;cases hx
   | some l=>exact hel l hg)
  have HSK:Hid (∀ (k i:Int) (t:Bs) (L:List Jv) (ks:List Bs),(gotP j nKeys).getD Jv.nul=.mk k i t L ks→setK j=if k=5∧1≤L.length∧L.length≤8 then setGo [] L else none):=Lib.hid (fun k i t L ks h=>setK_got hc h)
  clear hc HG hel
  generalize (gotP j nKeys).getD Jv.nul=J at *
  generalize setK j=res at *
  go_enter Tryz.func19,Tryz.ntmps19
  go_upto_region 1 with fail
  generalize w.alloc (.cells #[v0,v1,v2,v3,v4] 31)=W at *
  go_upto_region 3 with (first|(refine ldJ rfl _ rfl w.heap.size rfl b0 rfl ?_)|(go_at_call 44;((with_reducible refine HC1.out.mono ?_);rintro er w1 ⟨rfl,f1⟩)))
  have b1:=f1.blk b0 (fun e=>e)
  have F1:=f0.trans f1
  have HG2:=Lib.hid (HG1.out _ F1)
  clear HC1 HG1 b0
  go_upto_region 4 with (first|(refine ldJ rfl _ rfl w.heap.size rfl b1 rfl ?_)|(go_at_call 47;((with_reducible refine HG2.out.mono ?_);rintro er u1 ⟨x1,rfl,h1,f2⟩;obtain ⟨x10,x11,x12,x13,x14,rfl,o1⟩:=h1.form;have n1:=Blk.new u1 31 zj))|(refine wpList_store_row rfl 31 _ _ rfl u1.heap.size #[x10,x11,x12,x13,x14] rfl rfl 31 zj n1 size_json rfl o1 ?_))
  obtain ⟨p1,b2⟩:=put_row u1 x10 x11 x12 x13 x14
  have F2:=F1.trans (f2.trans p1)
  have HR0:RAt (All u1) u1 J (.agg #[x10,x11,x12,x13,x14]):=RAt.mono (fun _ hg=>Nat.lt_of_lt_of_le hg f2.size) _ _ h1
  have hR:=HR0.all p1
  clear n1 o1 HG2 b1 f0 f1 f2 F1 h1 HR0
  obtain ⟨c0,c1,c2,c3,c4⟩:=b2.five
  clear b2 p1
  generalize (u1.alloc (.cells zj 31)).setRow u1.heap.size #[x10,x11,x12,x13,x14]=U1 at *
  obtain ⟨k,i,t,L,ks⟩:=J
  have hres:=HSK.out k i t L ks rfl
  have HEL2:Hid (∀ x∈L,szJ x≤8388608):=Lib.hid HEL.out
  clear HSK HEL
  have hR0:=hR
  simp only [RAt] at hR0
  obtain ⟨lv,kv,hagg,hk,hi,ht,hks,hll,cs,hcs,hlm⟩:=hR0
  obtain ⟨la,lc,rfl⟩:=hlm.sl
  simp only [jV,Value.agg.injEq,Array.mk.injEq,List.cons.injEq,and_true] at hagg
  obtain ⟨rfl,rfl,rfl,rfl,rfl⟩:=hagg
  unfold big at hll
  clear hR hi ht hks
  by_cases h5:k=5
  ·subst h5
   by_cases hl1:1≤L.length
   ·have hl1':¬ ((L.length:Int)<1):=by omega
    by_cases hl8:L.length≤8
    ·have hl8':¬ ((8:Int)<(L.length:Int)):=by omega
     rw [if_pos ⟨rfl,hl1,hl8⟩] at hres
     have HRS:=Lib.hid hres
     clear hres
     go_upto_region 6 with fail
     obtain ⟨i1,hj0,hy0,hy1,hy2⟩:=info_parts info_key
     have HL:=Lib.hid (And.intro hcs hlm)
     have HOF:Hid (∀ (x:Jv) (y:Value) u,RAt (All u) u x y→szJ x≤8388608→Calls Tryz.prog 17 #[y] u fun e w'=>e=.returned (.tuple #[.agg (kyC ((ofK x).getD kz)),.int .i64 (if (ofK x).isSome then 0 else 100)])∧Fr NoB u w'):=Lib.hid (fun x y u h1 h2=>dof_any x y u h1 h2)
     clear hcs hlm c0 c1 c2 c4
     go_upto_region 7 with fail
     have own0:(U1.alloc (.cells #[] 27)).ownsRow U1.heap.size 27 8 (.slice (some ⟨U1.heap.size,0,none⟩) 0 0) 0 (kyCs []):=own_empty _ _ _ _ _ rfl (Nat.le_refl _)
     have g0:Fr NoB U1 (U1.alloc (.cells #[] 27)):=(Fr.refl _ _).alloc _
     generalize U1.alloc (.cells #[] 27)=U0 at *
     go_wp2_with fail
     go_loopw [6,7] (fun v6 v7 wr=>∃ (m:Nat) (out:List Ky),m≤L.length∧v7=.int .i64 m∧Hid (out.length=m)∧wr.ownsRow U1.heap.size 27 8 v6 out.length (kyCs out)∧Hid (res=setGo out (L.drop m))∧Fr NoB U1 wr) (fun _ v7 _=>L.length - (intOf v7).toNat)
     case atStart=>exact ⟨0,[],by omega,rfl,Lib.hid rfl,own0,Lib.hid HRS.out,g0⟩
     case round=>
      clear own0 g0
      obtain ⟨m,out,hm,rfl,hol,hown,HGo,hf⟩:=hrel
      obtain ⟨w3,hw3⟩:∃ x,x=wr:=⟨_,rfl⟩
      subst hw3
      have e3:=hf.celK c3
      by_cases hlt:m<L.length
      ·have k1:(0:Int)≤m:=by omega
       have k2:(m:Int)<L.length:=by omega
       obtain ⟨hcs,hlm⟩:=HL.out
       obtain ⟨ga,oa,rfl,ha⟩:=hlm.at_ hf (by omega)
       obtain ⟨y0,y1,y2,y3,y4,p0,p1,p2,p3,p4,hatx⟩:=RCells.get L cs m hlt hcs
       have d0:w3.cell? ⟨ga,oa+m*5,none⟩=some y0:=ha _ _ p0
       have d1:w3.cell? ⟨ga,oa+m*5+1,none⟩=some y1:=ha _ _ p1
       have d2:w3.cell? ⟨ga,oa+m*5+2,none⟩=some y2:=ha _ _ p2
       have d3:w3.cell? ⟨ga,oa+m*5+3,none⟩=some y3:=ha _ _ p3
       have d4:w3.cell? ⟨ga,oa+m*5+4,none⟩=some y4:=ha _ _ p4
       have hatr:=hatx.all hf
       have hsz:=HEL2.out L[m] (List.getElem_mem hlt)
       have HDR:Hid (L.drop m=L[m]::L.drop (m+1)):=Lib.hid (List.drop_eq_getElem_cons hlt)
       generalize L[m]=x at *
       clear ha p0 p1 p2 p3 p4 hcs hatx
       have HO:=Lib.hid (HOF.out x _ _ hatr hsz)
       cases hq:ofK x with
       | none=>
        rw [hq] at HO
        have HN:Hid (res=none):=Lib.hid (by rw [HGo.out,HDR.out,setGo_none hq])
        obtain rfl:res=none:=HN.out
        clear hq
        have honez:=one_key kz
        go_wp2_with (first|(go_at_call 17;((with_reducible refine HO.out.mono ?_);rintro er w4 ⟨rfl,f4⟩;have n4:=Blk.new w4 27 zk))|(refine wpList_store_row rfl 27 _ _ rfl w4.heap.size zk rfl rfl 27 _ n4 size_key rfl honez ?_))
        go_ret2
        exact ⟨rfl,(F2.trans (hf.trans f4)).trans (((Fr.refl NoB w4).alloc _).setRow w4.heap.size _ (Or.inl (Nat.le_refl _)))⟩
       | some q=>
        rw [hq] at HO
        have HGo2:Hid (res=if clash out q then none else setGo (out++[q]) (L.drop (m+1))):=Lib.hid (by rw [HGo.out,HDR.out,setGo_some hq])
        have honeq:=one_key q
        clear hq HGo HDR
        go_upto_region 11 with (first|(go_at_call 17;((with_reducible refine HO.out.mono ?_);rintro er w4 ⟨rfl,f4⟩;have n4:=Blk.new w4 27 zk))|(refine wpList_store_row rfl 27 _ _ rfl w4.heap.size (kyC q) rfl rfl 27 _ n4 size_key rfl honeq ?_))
        have p4:Fr NoB w4 ((w4.alloc (.cells zk 27)).setRow w4.heap.size (kyC q)):=((Fr.refl NoB w4).alloc _).setRow w4.heap.size _ (Or.inl (Nat.le_refl _))
        have b4:Blk ((w4.alloc (.cells zk 27)).setRow w4.heap.size (kyC q)) w4.heap.size 27 (kyC q):=n4.setRow _
        have hf5:=hf.trans (f4.trans p4)
        have hown5:=(f4.trans p4).row hown (fun _ _ e=>e)
        clear n4 hown hf HO e3 d0 d1 d2 d3 d4 hatr
        generalize (w4.alloc (.cells zk 27)).setRow w4.heap.size (kyC q)=U5 at *
        obtain ⟨ao,co,rfl⟩:=keyown_sl hown5
        have HIN:=Lib.hid ((InMem.own hown5).mono (T:=All U5) (fun _ h=>h.2))
        have HB4:=Lib.hid b4
        have HOW5:=Lib.hid hown5
        have HF5:=Lib.hid hf5
        have hon:(out.length:Int)=(m:Int):=by have:=hol.out;omega
        have HON:=Lib.hid hon
        have hob:out.length≤8:=by have:=hol.out;omega
        clear b4 hown5 hf5 p4 f4 hon
        go_upto_region 14 with fail
        go_loopw [10] (fun v10 wr=>∃ p:Nat,p≤out.length∧v10=.int .i64 p∧Hid (clash (out.take p) q=false)∧Fr NoB U5 wr) (fun v10 _=>out.length - (intOf v10).toNat)
        case atStart=>exact ⟨0,Nat.zero_le _,rfl,Lib.hid rfl,Fr.refl _ _⟩
        case round=>
         obtain ⟨p,hp,rfl,HCl,fp⟩:=hrel
         obtain ⟨w6,hw6⟩:∃ x,x=wr:=⟨_,rfl⟩
         subst hw6
         have b6:=fp.blk HB4.out (fun e=>e)
         by_cases hpl:p<out.length
         ·have i1:(0:Int)≤p:=by omega
          have i2:(p:Int)<out.length:=by omega
          obtain ⟨go,oo,rfl,hc⟩:=HIN.out.at_ fp (by omega)
          have c1':=hc _ _ ((kyCs_get out p hpl 1 (by omega)).trans rfl)
          have HT:=Lib.hid (clash_take out p hpl q)
          have HM:=Lib.hid (List.getElem_mem hpl)
          generalize out[p]=r at *
          have d1:w6.cell? ⟨go,oo+p*8+1,none⟩=some (.string ⟨r.kid.toArray⟩):=c1'
          have q1:w6.cell? ⟨w4.heap.size,1,none⟩=some (.string ⟨q.kid.toArray⟩):=(b6.cell 1).trans rfl
          clear hc c1' b6
          by_cases hz:q.kid=[]
          ·have ez:(⟨q.kid.toArray⟩:ByteArray)=⟨#[]⟩:=by rw [hz]
           have HNS:Hid (sameK r q=false):=Lib.hid (by simp [sameK,hz])
           go_wp2_with fail
           go_quiet (fail)
           go_wp2_with fail
           go_roundw
           case rel=>exact ⟨p+1,by omega,by simp,Lib.hid (by rw [HT.out,HCl.out,HNS.out];rfl),fp.drewN _⟩
           case measure=>(first|(simp [intOf];done)|(simp [intOf]<;>omega))
          ·have ez:=ne_ba hz
           have ez2:q.kid.isEmpty=false:=by cases hk:q.kid<;>simp_all
           by_cases he:r.kid=q.kid
           ·have HS:Hid (sameK r q=true):=Lib.hid (by simp [sameK,hz,he])
            have HN:Hid (res=none):=Lib.hid (by rw [HGo2.out,clash_mem HM.out HS.out];rfl)
            obtain rfl:res=none:=HN.out
            rw [he] at d1
            go_wp2_with fail
            go_quiet (fail)
            go_wp2_with fail
            go_ret2
            exact ⟨rfl,(F2.trans HF5.out).trans (fp.drewN _)⟩
           ·have ee:¬ ((⟨r.kid.toArray⟩:ByteArray)=⟨q.kid.toArray⟩):=by simpa [ba_inj] using he
            have ee2:(r.kid==q.kid)=false:=by simpa using he
            have HNS:Hid (sameK r q=false):=Lib.hid (by simp [sameK,he])
            go_wp2_with fail
            go_quiet (fail)
            go_wp2_with fail
            go_roundw
            case rel=>exact ⟨p+1,by omega,by simp,Lib.hid (by rw [HT.out,HCl.out,HNS.out];rfl),fp.drewN _⟩
            case measure=>(first|(simp [intOf];done)|(simp [intOf]<;>omega))
         ·obtain rfl:p=out.length:=by omega
          have hclf:clash out q=false:=by have:=HCl.out;rwa [List.take_length] at this
          have HGo3:Hid (res=setGo (out++[q]) (L.drop (m+1))):=Lib.hid (by rw [HGo2.out,hclf];rfl)
          have own6:=fp.row HOW5.out (fun _ _ e=>e)
          have hf6:=HF5.out.trans fp
          have hlo:∀ j,(Value.slice ao out.length co).ownBlock=some j→U1.heap.size≤j∧j<w6.heap.size:=fun j hj=>own6.lt j hj
          have hsz6:U1.heap.size≤w6.heap.size:=hf6.size
          obtain ⟨qty,qid,qalg,qn,qe,qx,qy,qsec⟩:=q
          have e0:w6.cell? ⟨w4.heap.size,0,none⟩=some (.int .i64 qty):=(b6.cell 0).trans rfl
          have e1:w6.cell? ⟨w4.heap.size,1,none⟩=some (.string ⟨qid.toArray⟩):=(b6.cell 1).trans rfl
          have e2:w6.cell? ⟨w4.heap.size,2,none⟩=some (.string ⟨qalg.toArray⟩):=(b6.cell 2).trans rfl
          have e3:w6.cell? ⟨w4.heap.size,3,none⟩=some (.string ⟨qn.toArray⟩):=(b6.cell 3).trans rfl
          have e4:w6.cell? ⟨w4.heap.size,4,none⟩=some (.string ⟨qe.toArray⟩):=(b6.cell 4).trans rfl
          have e5:w6.cell? ⟨w4.heap.size,5,none⟩=some (.string ⟨qx.toArray⟩):=(b6.cell 5).trans rfl
          have e6:w6.cell? ⟨w4.heap.size,6,none⟩=some (.string ⟨qy.toArray⟩):=(b6.cell 6).trans rfl
          have e7:w6.cell? ⟨w4.heap.size,7,none⟩=some (.string ⟨qsec.toArray⟩):=(b6.cell 7).trans rfl
          clear HOW5 HF5 b6 fp hclf HCl HIN HB4
          have ownA:=((Fr.refl NoB w6).alloc (.cells (kyC ⟨qty,qid,qalg,qn,qe,qx,qy,qsec⟩) 27)).row own6 (fun _ _ e=>e)
          go_wp2_with (at_builtin;go_loud (refine wpList_append_lies _ rfl _ _ 43 rfl U1.heap.size 27 i1 (.agg #[.int .i64 0,.string ⟨#[]⟩,.string ⟨#[]⟩,.string ⟨#[]⟩,.string ⟨#[]⟩,.string ⟨#[]⟩,.string ⟨#[]⟩,.string ⟨#[]⟩]) 8 120 Tryz.underlying43 hj0 hy0 hy1 hy2 rfl (by decide) (.slice ao out.length co) out.length (kyCs out) rfl ownA ⟨w6.heap.size,0,none⟩ 1 1 [.int .i64 qty,.string ⟨qid.toArray⟩,.string ⟨qalg.toArray⟩,.string ⟨qn.toArray⟩,.string ⟨qe.toArray⟩,.string ⟨qx.toArray⟩,.string ⟨qy.toArray⟩,.string ⟨qsec.toArray⟩] rfl rfl (World.news_of_block (cs := #[.int .i64 qty,.string ⟨qid.toArray⟩,.string ⟨qalg.toArray⟩,.string ⟨qn.toArray⟩,.string ⟨qe.toArray⟩,.string ⟨qx.toArray⟩,.string ⟨qy.toArray⟩,.string ⟨qsec.toArray⟩]) (t:=27) (fr:=(0,0)) (heap_alloc_new w6 _)) (by intro u hu;simp only [List.mem_cons,List.not_mem_nil,or_false] at hu;rcases hu with rfl|rfl|rfl|rfl|rfl|rfl|rfl|rfl<;>rfl) (by omega) (by have:=hol.out;unfold maxLen;omega) (by have:=hol.out;omega) (by simp;omega) (w6.heap.size+1) (by simp) ?_;intro g' cap' wl hown hgr hat hglt))
          have fA:Fr NoB U1 wl:=(hf6.alloc _).grown hgr (fun j hj hl=>absurd (hlo j hj).1 (by omega))
          have HOW:Hid (wl.ownsRow U1.heap.size 27 8 (.slice (some ⟨g',0,none⟩) (out.length+1) cap') (out++[(⟨qty,qid,qalg,qn,qe,qx,qy,qsec⟩:Ky)]).length (kyCs (out++[⟨qty,qid,qalg,qn,qe,qx,qy,qsec⟩]))):=Lib.hid (by rw [kyCs_snoc,List.length_append];exact hown)
          clear hown hgr hat ownA own6 e0 e1 e2 e3 e4 e5 e6 e7
          go_roundw
          case rel=>exact ⟨m+1,out++[⟨qty,qid,qalg,qn,qe,qx,qy,qsec⟩],by omega,by simp,Lib.hid (by rw [List.length_append,hol.out];rfl),HOW.out,HGo3,fA⟩
          case measure=>(first|(simp [intOf];done)|(simp [intOf]<;>omega))
      ·obtain rfl:m=L.length:=by omega
       have hpos:0<out.length:=by have:=hol.out;omega
       have HRo:Hid (res=some out):=Lib.hid (by rw [HGo.out,List.drop_length];rfl)
       obtain rfl:res=some out:=HRo.out
       obtain ⟨gs,cc,rfl,hnc,hcb,hg1,hg2,hcell,hfz⟩:=keyown_form hown hpos
       have HFI:=Lib.hid hcell
       have hF:=F2.trans hf
       have hszz:=F2.size
       clear hown hcell hfz HGo HOF HL HEL2
       go_wp2_with fail
       go_ret2
       exact ⟨⟨gs,cc,rfl,hpos,by omega,hg2,HFI.out⟩,hF⟩
    ·have hl8':(8:Int)<(L.length:Int):=by omega
     rw [if_neg (fun e=>hl8 e.2.2)] at hres
     obtain rfl:res=none:=hres
     go_wp2_with fail
     go_ret2
     exact ⟨rfl,F2⟩
   ·have hl1':(L.length:Int)<1:=by omega
    rw [if_neg (fun e=>hl1 e.2.1)] at hres
    obtain rfl:res=none:=hres
    go_wp2_with fail
    go_ret2
    exact ⟨rfl,F2⟩
  ·rw [if_neg (fun e=>h5 e.1)] at hres
   obtain rfl:res=none:=hres
   go_wp2_with fail
   go_ret2
   exact ⟨rfl,F2⟩
 ·have hres:setK j=none:=by rw [setK,if_neg hc]
  rw [hres]
  have hci:¬ (checkP 0 j:Int)=0:=by omega
  generalize checkP 0 j=q at *
  clear HG hres
  go_enter Tryz.func19,Tryz.ntmps19
  go_upto_region 1 with fail
  generalize w.alloc (.cells #[v0,v1,v2,v3,v4] 31)=W at *
  go_wp2_with (first|(refine ldJ rfl _ rfl w.heap.size rfl b0 rfl ?_)|(go_at_call 44;((with_reducible refine HC1.out.mono ?_);rintro er w1 ⟨rfl,f1⟩)))
  go_ret2
  exact ⟨rfl,f0.trans f1⟩
end Go.Proofs.YtbifjamddbpcjaaGreatDoor
