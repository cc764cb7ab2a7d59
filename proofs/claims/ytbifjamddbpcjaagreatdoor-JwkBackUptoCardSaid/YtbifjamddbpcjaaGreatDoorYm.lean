/- Keys. -/
import Derived.Test.YtbifjamddbpcjaaGreatDoorOk
import Derived.Test.YtbifjamddbpcjaaGreatDoorYk
import Derived.Test.YtbifjamddbpcjaaGreatDoorLr
import Derived.Test.YtbifjamddbpcjaaGreatDoorYh
import Derived.Test.YtbifjamddbpcjaaGreatDoorGs
import Derived.Test.YtbifjamddbpcjaaGreatDoorJx
namespace Go.Proofs.YtbifjamddbpcjaaGreatDoor
set_option maxRecDepth 100000
set_option maxHeartbeats 25600000
open Go.RowKit
theorem kyCs_get:∀ (l:List Ky) (m:Nat) (h:m<l.length) (j:Nat),j<8→(kyCs l)[m*8+j]?=(kyC l[m])[j]?
 | [],m,h,_,_=>by simp at h
 | a::r,0,h,j,hj=>by
  rw [Nat.zero_mul,Nat.zero_add,List.getElem_cons_zero]
  show ((kyC a).toList++kyCs r)[j]?=_
  rw [List.getElem?_append_left (by simpa using hj),Array.getElem?_toList]
 | a::r,m+1,h,j,hj=>by
  have:=kyCs_get r m (by simpa using h) j hj
  show ((kyC a).toList++kyCs r)[(m+1)*8+j]?=_
  rw [List.getElem?_append_right (by simp;omega),show (m+1)*8+j - (kyC a).toList.length=m*8+j by simp;omega,this]
  rfl
theorem info_key:(Tryz.prog.info? 27).map (fun i=>(i.zero,i.size,i.bytes))=some (some (.agg #[.int .i64 0,.string ⟨#[]⟩,.string ⟨#[]⟩,.string ⟨#[]⟩,.string ⟨#[]⟩,.string ⟨#[]⟩,.string ⟨#[]⟩,.string ⟨#[]⟩]),8,120):=by kernel_rfl
def sameK (o k:Ky):Bool:=decide (o.kid=k.kid)&&decide (k.kid≠[])
theorem set1_any (o k:Ky) (g:Nat) (w:World) (hb:Blk w g 27 (kyC k)) :
  Calls Tryz.prog 49 #[.agg (kyC o),.pointer (some ⟨g,0,none⟩)] w fun e w'=>e=.returned (.bool (sameK o k))∧Fr NoB w w':=by
 have fb:Fr NoB w (w.alloc (.cells (kyC o) 27)):=(Fr.refl _ _).alloc _
 have b0:=Blk.new w 27 (kyC o)
 have bk:=fb.blk hb id
 have HS:Hid (sameK o k=(decide (o.kid=k.kid)&&decide (k.kid≠[]))):=Lib.hid rfl
 generalize sameK o k=res at *
 obtain ⟨oty,oid,oalg,on,oe,ox,oy,osec⟩:=o
 obtain ⟨kty,kid,alg,n,e,x,y,sec⟩:=k
 simp only at HS
 go_enter Tryz.func49,Tryz.ntmps49
 go_upto_region 1 with fail
 generalize w.alloc (.cells (kyC ⟨oty,oid,oalg,on,oe,ox,oy,osec⟩) 27)=W at *
 have q1:W.cell? ⟨w.heap.size,1,none⟩=some (.string ⟨oid.toArray⟩):=(b0.cell 1).trans rfl
 have p1:W.cell? ⟨g,1,none⟩=some (.string ⟨kid.toArray⟩):=(bk.cell 1).trans rfl
 by_cases h1:oid=kid
 ·subst h1
  by_cases h2:oid=[]
  ·subst h2
   go_wp2_with fail
   go_ret
   exact ⟨by rw [HS.out];rfl,fb⟩
  ·have h3:(oid==[])=false:=by cases oid with|nil=>exact absurd rfl h2|cons a b=>rfl
   have h4:oid.isEmpty=false:=by cases oid with|nil=>exact absurd rfl h2|cons a b=>rfl
   go_wp2_with fail
   go_ret
   exact ⟨by rw [HS.out];simp [h2],fb⟩
 ·have h3:(oid==kid)=false:=by simpa using h1
  go_wp2_with fail
  go_ret
  exact ⟨by rw [HS.out];simp [h1],fb⟩
theorem clash_take (l:List Ky) (m:Nat) (h:m<l.length) (k:Ky):clash (l.take (m+1)) k=(clash (l.take m) k || sameK l[m] k):=by
 have htk:l.take (m+1)=l.take m++[l[m]]:=by rw [List.take_add_one,List.getElem?_eq_getElem h];rfl
 rw [htk,clash_snoc];rfl
theorem clash_mem {l:List Ky} {o k:Ky} (h:o∈l) (hs:sameK o k=true):clash l k=true:=by
 unfold clash
 exact List.any_eq_true.2 ⟨o,h,hs⟩
theorem kidxF_any (out:List Ky) (k:Ky) (G:Nat) (sv:Value) (w:World) (hk:Blk w G 27 (kyC k)) (hl:out.length≤1000) (hin:InMem (All w) w sv out.length (kyCs out)) :
  Calls Tryz.prog 86 #[sv,.func (.func 49) #[] #[.pointer (some ⟨G,0,none⟩)]] w fun e w'=>∃ r:Int,e=.returned (.int .i64 r)∧((r = -1∧clash out k=false)∨(0≤r∧clash out k=true))∧Fr NoB w w':=by
 rcases hin with ⟨h0,a,c,rfl⟩|⟨g,o,c,rfl,hg,hc⟩
 ·have hks:out=[]:=List.eq_nil_of_length_eq_zero h0
  subst hks
  go_enter Tryz.func86,Tryz.ntmps86
  go_wp2
  go_loopw [8] (fun v8 wr=>v8=.int .i64 0∧Fr NoB w wr) (fun _ _=>0)
  case atStart=>exact ⟨rfl,Fr.refl _ _⟩
  case round=>
   obtain ⟨rfl,hf⟩:=hrel
   go_wp2
   go_ret
   exact ⟨-1,rfl,Or.inl ⟨rfl,rfl⟩,hf⟩
 ·have HC:=Lib.hid hc
  have HK:=Lib.hid hk
  clear hc hk
  go_enter Tryz.func86,Tryz.ntmps86
  go_wp2
  go_loopw [8] (fun v8 wr=>∃ m:Nat,m≤out.length∧v8=.int .i64 m∧Fr NoB w wr∧Hid (clash (out.take m) k=false)) (fun v8 _=>out.length - (intOf v8).toNat)
  case atStart=>exact ⟨0,Nat.zero_le _,rfl,Fr.refl _ _,Lib.hid rfl⟩
  case round=>
   obtain ⟨m,hm,rfl,hf,HA⟩:=hrel
   by_cases hlt:m<out.length
   ·have cc:∀ (j:Nat) u,j<8→(kyC out[m])[j]?=some u→wr.cell? ⟨g,o+(m*8+j),none⟩=some u:=fun j u hj hu=>(hf.cell (p:=⟨g,o+(m*8+j),none⟩) hg id).trans (HC.out _ _ ((kyCs_get out m hlt j hj).trans hu))
    have HT:=Lib.hid (clash_take out m hlt k)
    have HM:=Lib.hid (List.getElem_mem hlt)
    generalize out[m]=q at cc HT HM
    have HS:Hid (∀ u,Fr NoB w u→Calls Tryz.prog 49 #[.agg (kyC q),.pointer (some ⟨G,0,none⟩)] u fun e w'=>e=.returned (.bool (sameK q k))∧Fr NoB u w'):=Lib.hid (fun u f=>set1_any q k G u (f.blk HK.out id))
    obtain ⟨bb,hbb⟩:∃ b,b=sameK q k:=⟨_,rfl⟩
    have HB:=Lib.hid hbb
    rw [← hbb] at HS
    clear hbb
    obtain ⟨kty,kid,alg,n,e,x,y,sec⟩:=q
    have c0:wr.cell? ⟨g,o+m*8,none⟩=some (.int .i64 kty):=cc 0 _ (by omega) rfl
    have c1:wr.cell? ⟨g,o+m*8+1,none⟩=some (.string ⟨kid.toArray⟩):=cc 1 _ (by omega) rfl
    have c2:wr.cell? ⟨g,o+m*8+2,none⟩=some (.string ⟨alg.toArray⟩):=cc 2 _ (by omega) rfl
    have c3:wr.cell? ⟨g,o+m*8+3,none⟩=some (.string ⟨n.toArray⟩):=cc 3 _ (by omega) rfl
    have c4:wr.cell? ⟨g,o+m*8+4,none⟩=some (.string ⟨e.toArray⟩):=cc 4 _ (by omega) rfl
    have c5:wr.cell? ⟨g,o+m*8+5,none⟩=some (.string ⟨x.toArray⟩):=cc 5 _ (by omega) rfl
    have c6:wr.cell? ⟨g,o+m*8+6,none⟩=some (.string ⟨y.toArray⟩):=cc 6 _ (by omega) rfl
    have c7:wr.cell? ⟨g,o+m*8+7,none⟩=some (.string ⟨sec.toArray⟩):=cc 7 _ (by omega) rfl
    clear cc
    have i1:(0:Int)≤m:=by omega
    have i2:(m:Int)<out.length:=by omega
    cases bb with
    | true=>
     go_wp2_with (go_at_call 49;((with_reducible refine (HS.out _ hf).mono ?_);rintro er w1 ⟨rfl,f1⟩))
     go_ret
     exact ⟨m,rfl,Or.inr ⟨by omega,clash_mem HM.out HB.out.symm⟩,hf.trans f1⟩
    | false=>
     go_wp2_with (go_at_call 49;((with_reducible refine (HS.out _ hf).mono ?_);rintro er w1 ⟨rfl,f1⟩))
     go_roundw
     case rel=>exact ⟨m+1,by omega,by simp,hf.trans f1,Lib.hid (by rw [HT.out,HA.out,← HB.out];rfl)⟩
     case measure=>simp [intOf];omega
   ·obtain rfl:m=out.length:=by omega
    go_wp2
    go_ret
    exact ⟨-1,rfl,Or.inl ⟨rfl,by have:=HA.out;simpa using this⟩,hf⟩
theorem kcont_any (out:List Ky) (k:Ky) (G:Nat) (sv:Value) (w:World) (hk:Blk w G 27 (kyC k)) (hl:out.length≤1000) (hin:InMem (All w) w sv out.length (kyCs out)) :
  Calls Tryz.prog 50 #[sv,.func (.func 49) #[] #[.pointer (some ⟨G,0,none⟩)]] w fun e w'=>e=.returned (.bool (clash out k))∧Fr NoB w w':=by
 have hI:=Lib.hid (kidxF_any out k G sv w hk hl hin)
 clear hk hl hin
 go_enter Tryz.func50,Tryz.ntmps50
 go_wp2_with (go_at_call 86;((with_reducible refine hI.out.mono ?_);rintro e w1 ⟨r,rfl,hr,f1⟩))
 go_ret
 refine ⟨?_,f1⟩
 rcases hr with ⟨rfl,ha⟩|⟨h0,ha⟩
 ·rw [ha];rfl
 ·rw [ha];simp [h0]
theorem kclip_any (g n c:Nat) (w:World) (hn:n≤c):Calls Tryz.prog 51 #[.slice (some ⟨g,0,none⟩) n c] w fun e w'=>e=.returned (.slice (some ⟨g,0,none⟩) n n)∧Fr NoB w w':=by
 go_enter Tryz.func51,Tryz.ntmps51
 go_wp2
 go_ret
 exact ⟨rfl,Fr.refl _ _⟩
def SetIs (o:Option (List Ky)) (w:World) (e:Ending) (w':World):Prop:=match o with
 | none=>e=.returned (.tuple #[.slice none 0 0,.int .i64 101])
 | some l=>∃ g,e=.returned (.tuple #[.slice (some ⟨g,0,none⟩) l.length l.length,.int .i64 0])∧0<l.length∧w.heap.size≤g∧g<w'.heap.size∧(∀ (i:Nat) u,(kyCs l)[i]?=some u→w'.cell? ⟨g,i,none⟩=some u)∧(∀ i,w'.frozen? ⟨g,i,none⟩=false)
theorem setK_got {j:Jv} (hc:checkP 0 j=0) {k i:Int} {t:Bs} {L:List Jv} {ks:List Bs} (hJ:(gotP j nKeys).getD Jv.nul=.mk k i t L ks):setK j=if k=5∧1≤L.length∧L.length≤8 then setGo [] L else none:=by
 rw [setK,if_pos hc]
 cases hg:gotP j nKeys with
 | none=>
  rw [hg] at hJ
  have hk:(0:Int)=k:=congrArg Jv.kind hJ
  rw [if_neg (by omega)]
 | some l=>
  rw [hg] at hJ
  obtain rfl:l=.mk k i t L ks:=hJ
  rfl
theorem setGo_some {out:List Ky} {x:Jv} {r:List Jv} {k:Ky} (h:ofK x=some k):setGo out (x::r)=if clash out k then none else setGo (out++[k]) r:=by
 rw [setGo,h];rfl
theorem setGo_none {out:List Ky} {x:Jv} {r:List Jv} (h:ofK x=none):setGo out (x::r)=none:=by
 rw [setGo,h]
theorem keyown_form {w:World} {lo n:Nat} {v:Value} {xs:List Value} (h:w.ownsRow lo 27 8 v n xs) (hn:0<n) :
  ∃ g c,v=.slice (some ⟨g,0,none⟩) n c∧n≤c∧c≤9223372036854775807∧lo≤g∧g<w.heap.size∧(∀ (i:Nat) u,xs[i]?=some u→w.cell? ⟨g,i,none⟩=some u)∧(∀ i,w.frozen? ⟨g,i,none⟩=false):=by
 have hc:=@World.ownsRow.cells _ _ _ _ _ _ _ h
 rcases h.2 with ⟨_,h0⟩|⟨g,cap,cur,rfl,hg,hh,h1,h2,_⟩
 ·omega
 ·refine ⟨g,cap,rfl,h1,by unfold maxLen at h2;omega,hg,lt_of_block hh,fun i u hu => ?_,fun i=>(show Blk w g 27 cur from hh).frozen i⟩
  have:=hc (g:=g) rfl i u hu
  rwa [add_at,Nat.zero_add] at this
theorem kset_any {B:Nat} (j:Jv) (v:Value) (w:World) (hx:Cx B w) (hat:RAt (All w) w j v) (hsm:JSm j) (hel:∀ l,gotP j nKeys=some l→∀ x∈l.list,szJ x≤8388608) :
  Calls Tryz.prog 18 #[v] w fun e w'=>SetIs (setK j) w e w'∧Fr NoB w w':=by
 obtain ⟨v0,v1,v2,v3,v4,rfl,hone⟩:=hat.form
 have HC:Hid (∀ u,Fr NoB w u→Calls Tryz.prog 41 #[.agg #[v0,v1,v2,v3,v4]] u fun e w'=>e=.returned (.int .i64 (checkP 0 j:Int))∧Fr NoB u w'):=Lib.hid (fun u f=>check_any (All u) j _ u (hx.fr0 f) (fun _ h=>h) (hat.all f) hsm)
 have b0:=Blk.new w 31 #[v0,v1,v2,v3,v4]
 have f0:Fr NoB w (w.alloc (.cells #[v0,v1,v2,v3,v4] 31)):=(Fr.refl _ _).alloc _
 have hok:checkP 0 j=0→JvOk j:=fun h=>by
  obtain ⟨k,i,t,l,ks⟩:=j
  exact fun h6=>((form_kind (form_of 0 k i t l ks h).1).2.2 h6).1
 have HG:Hid (checkP 0 j=0→∀ u,Fr NoB w u→Calls Tryz.prog 48 #[.agg #[v0,v1,v2,v3,v4],.string ⟨#[107,101,121,115]⟩] u fun e w'=>∃ x,e=.returned (.tuple #[x,.bool (gotP j nKeys).isSome])∧RAt (All u) w' ((gotP j nKeys).getD Jv.nul) x∧Fr NoB u w'):=Lib.hid (fun h u f=>kget_any (All u) j _ nKeys u (fun _ h=>h) (hat.all f) (hok h))
 have HC1:=Lib.hid (HC.out _ f0)
 clear hat hok HC hsm
 by_cases hc:checkP 0 j=0
 ·have HG1:=Lib.hid (HG.out hc)
  rw [hc] at HC1
  have HEL:Hid (∀ x∈((gotP j nKeys).getD Jv.nul).list,szJ x≤8388608):=Lib.hid (by
   cases hg:gotP j nKeys with
   | none=>intro x hx;cases hx
   | some l=>exact hel l hg)
  have HSK:Hid (∀ (k i:Int) (t:Bs) (L:List Jv) (ks:List Bs),(gotP j nKeys).getD Jv.nul=.mk k i t L ks→setK j=if k=5∧1≤L.length∧L.length≤8 then setGo [] L else none):=Lib.hid (fun k i t L ks h=>setK_got hc h)
  clear hc HG hel
  generalize (gotP j nKeys).getD Jv.nul=J at *
  generalize setK j=res at *
  go_enter Tryz.func18,Tryz.ntmps18
  go_upto_region 1 with fail
  generalize w.alloc (.cells #[v0,v1,v2,v3,v4] 31)=W at *
  go_upto_region 3 with (first|(refine ldJ rfl _ rfl w.heap.size rfl b0 rfl ?_)|(go_at_call 41;((with_reducible refine HC1.out.mono ?_);rintro er w1 ⟨rfl,f1⟩)))
  have b1:=f1.blk b0 id
  have F1:=f0.trans f1
  have HG2:=Lib.hid (HG1.out _ F1)
  clear HC1 HG1 b0
  go_upto_region 4 with (first|(refine ldJ rfl _ rfl w.heap.size rfl b1 rfl ?_)|(go_at_call 48;((with_reducible refine HG2.out.mono ?_);rintro er u1 ⟨x1,rfl,h1,f2⟩;obtain ⟨x10,x11,x12,x13,x14,rfl,o1⟩:=h1.form;have n1:=Blk.new u1 31 zj))|(refine wpList_store_row rfl 31 _ _ rfl u1.heap.size #[x10,x11,x12,x13,x14] rfl rfl 31 zj n1 size_json rfl o1 ?_))
  obtain ⟨p1,b2⟩:=put_row u1 x10 x11 x12 x13 x14
  have F2:=F1.trans (f2.trans p1)
  have HR0:RAt (All u1) u1 J (.agg #[x10,x11,x12,x13,x14]):=RAt.mono (fun _ hg=>Nat.lt_of_lt_of_le hg f2.size) _ _ h1
  have hR:=HR0.all p1
  clear n1 o1 HG2 b1 f0 f1 f2 F1 h1 HR0
  obtain ⟨c0,c1,c2,c3,c4⟩:=b2.five
  clear b2 p1
  generalize (u1.alloc (.cells zj 31)).setRow u1.heap.size #[x10,x11,x12,x13,x14]=U1 at *
  obtain ⟨k,i,t,L,ks⟩:=J
  have hres:=HSK.out k i t L ks rfl
  have HEL2:Hid (∀ x∈L,szJ x≤8388608):=Lib.hid HEL.out
  clear HSK HEL
  have hR0:=hR
  simp only [RAt] at hR0
  obtain ⟨lv,kv,hagg,hk,hi,ht,hks,hll,cs,hcs,hlm⟩:=hR0
  obtain ⟨la,lc,rfl⟩:=hlm.sl
  simp only [jV,Value.agg.injEq,Array.mk.injEq,List.cons.injEq,and_true] at hagg
  obtain ⟨rfl,rfl,rfl,rfl,rfl⟩:=hagg
  unfold big at hll
  clear hR hi ht hks
  by_cases h5:k=5
  ·subst h5
   by_cases hl1:1≤L.length
   ·have hl1':¬ ((L.length:Int)<1):=by omega
    by_cases hl8:L.length≤8
    ·have hl8':¬ ((8:Int)<(L.length:Int)):=by omega
     rw [if_pos ⟨rfl,hl1,hl8⟩] at hres
     have HRS:=Lib.hid hres
     clear hres
     go_upto_region 7 with fail
     obtain ⟨i1,hj0,hy0,hy1,hy2⟩:=info_parts info_key
     have HL:=Lib.hid (And.intro hcs hlm)
     have HOF:Hid (∀ (x:Jv) (y:Value) u,Fr NoB w u→RAt (All u) u x y→szJ x≤8388608→Calls Tryz.prog 16 #[y] u fun e w'=>e=.returned (.tuple #[.agg (kyC ((ofK x).getD kz)),.int .i64 (if (ofK x).isSome then 0 else 100)])∧Fr NoB u w'):=Lib.hid (fun x y u f h1 h2=>of_key_any x y u (hx.fr0 f) h1 h2 (JSm_of x h2))
     clear hcs hlm
     go_upto_region 8 with fail
     go_loopw [6,38] (fun v6 v38 wr=>∃ (m:Nat) (out:List Ky),m≤L.length∧v38=.int .i64 m∧Hid (out.length=m)∧wr.ownsRow U1.heap.size 27 8 v6 out.length (kyCs out)∧Hid (res=setGo out (L.drop m))∧Fr NoB U1 wr) (fun _ v38 _=>L.length - (intOf v38).toNat)
     case atStart=>exact ⟨0,[],by omega,rfl,Lib.hid rfl,World.ownsRow_nil _ _ _ _,Lib.hid HRS.out,Fr.refl _ _⟩
     case round=>
      obtain ⟨m,out,hm,rfl,hol,hown,HGo,hf⟩:=hrel
      by_cases hlt:m<L.length
      ·have k1:(0:Int)≤m:=by omega
       have k2:(m:Int)<L.length:=by omega
       obtain ⟨hcs,hlm⟩:=HL.out
       obtain ⟨ga,oa,rfl,ha⟩:=hlm.at_ hf (by omega)
       obtain ⟨y0,y1,y2,y3,y4,p0,p1,p2,p3,p4,hatx⟩:=RCells.get L cs m hlt hcs
       have d0:wr.cell? ⟨ga,oa+m*5,none⟩=some y0:=ha _ _ p0
       have d1:wr.cell? ⟨ga,oa+m*5+1,none⟩=some y1:=ha _ _ p1
       have d2:wr.cell? ⟨ga,oa+m*5+2,none⟩=some y2:=ha _ _ p2
       have d3:wr.cell? ⟨ga,oa+m*5+3,none⟩=some y3:=ha _ _ p3
       have d4:wr.cell? ⟨ga,oa+m*5+4,none⟩=some y4:=ha _ _ p4
       have hatr:=hatx.all hf
       have hyone:=all_one hatr.one
       have hsz:=HEL2.out L[m] (List.getElem_mem hlt)
       have HDR:Hid (L.drop m=L[m]::L.drop (m+1)):=Lib.hid (List.drop_eq_getElem_cons hlt)
       generalize L[m]=x at *
       clear ha p0 p1 p2 p3 p4 hcs hatx
       have nx:=Blk.new wr 31 zj
       go_upto_region 10 with (refine wpList_store_row rfl 31 _ _ rfl wr.heap.size #[y0,y1,y2,y3,y4] rfl rfl 31 zj nx size_json rfl hyone ?_)
       obtain ⟨px,bx⟩:=put_row wr y0 y1 y2 y3 y4
       have hf2:=hf.trans px
       have hown2:=px.row hown (fun _ _ e=>e)
       have HO:=Lib.hid (HOF.out x _ _ (F2.trans hf2) (hatr.all px) hsz)
       clear nx d0 d1 d2 d3 d4 hatr hown px hf
       generalize (wr.alloc (.cells zj 31)).setRow wr.heap.size #[y0,y1,y2,y3,y4]=U2 at *
       cases hq:ofK x with
       | none=>
        rw [hq] at HO
        have HN:Hid (res=none):=Lib.hid (by rw [HGo.out,HDR.out,setGo_none hq])
        obtain rfl:res=none:=HN.out
        clear hq
        have honez:=one_key kz
        go_wp2_with (first|(refine ldJ rfl _ rfl wr.heap.size rfl bx rfl ?_)|(go_at_call 16;((with_reducible refine HO.out.mono ?_);rintro er w4 ⟨rfl,f4⟩;have n4:=Blk.new w4 27 zk))|(refine wpList_store_row rfl 27 _ _ rfl w4.heap.size zk rfl rfl 27 _ n4 size_key rfl honez ?_))
        go_ret2
        exact ⟨rfl,(F2.trans (hf2.trans f4)).trans (((Fr.refl NoB w4).alloc _).setRow w4.heap.size _ (Or.inl (Nat.le_refl _)))⟩
       | some q=>
        rw [hq] at HO
        have HGo2:Hid (res=if clash out q then none else setGo (out++[q]) (L.drop (m+1))):=Lib.hid (by rw [HGo.out,HDR.out,setGo_some hq])
        have honeq:=one_key q
        have hqC:Hid (∀ (i:Nat) u,(kyC q)[i]?=some u→(kyC q).toList[i]?=some u):=Lib.hid (fun i u h=>by simpa using h)
        clear hq HGo HDR
        go_upto_region 11 with (first|(refine ldJ rfl _ rfl wr.heap.size rfl bx rfl ?_)|(go_at_call 16;((with_reducible refine HO.out.mono ?_);rintro er w4 ⟨rfl,f4⟩;have n4:=Blk.new w4 27 zk))|(refine wpList_store_row rfl 27 _ _ rfl w4.heap.size (kyC q) rfl rfl 27 _ n4 size_key rfl honeq ?_))
        have p4:Fr NoB w4 ((w4.alloc (.cells zk 27)).setRow w4.heap.size (kyC q)):=((Fr.refl NoB w4).alloc _).setRow w4.heap.size _ (Or.inl (Nat.le_refl _))
        have b4:Blk ((w4.alloc (.cells zk 27)).setRow w4.heap.size (kyC q)) w4.heap.size 27 (kyC q):=n4.setRow _
        have hf5:=hf2.trans (f4.trans p4)
        have hown5:=(f4.trans p4).row hown2 (fun _ _ e=>e)
        clear n4 hown2 hf2 bx HO
        generalize (w4.alloc (.cells zk 27)).setRow w4.heap.size (kyC q)=U5 at *
        have HCT:=Lib.hid (kcont_any out q w4.heap.size u6 U5 b4 (by have:=hol.out;omega) ((InMem.own hown5).mono (fun _ h=>h.2)))
        cases hcl:clash out q with
        | true=>
         rw [hcl] at HCT HGo2
         obtain rfl:res=none:=HGo2.out
         clear hcl
         go_wp2_with (go_at_call 50;((with_reducible refine HCT.out.mono ?_);rintro er w6 ⟨rfl,f6⟩))
         go_ret2
         exact ⟨rfl,F2.trans (hf5.trans f6)⟩
        | false=>
         rw [hcl] at HCT HGo2
         have HGo3:Hid (res=setGo (out++[q]) (L.drop (m+1))):=Lib.hid HGo2.out
         clear hcl HGo2
         go_upto_region 14 with (go_at_call 50;((with_reducible refine HCT.out.mono ?_);rintro er w6 ⟨rfl,f6⟩))
         have b6:=f6.blk b4 id
         have hf6:=hf5.trans f6
         have own6:=f6.row hown5 (fun _ _ e=>e)
         have hlo:∀ j,u6.ownBlock=some j→U1.heap.size≤j∧j<w6.heap.size:=fun j hj=>own6.lt j hj
         have hsz6:U1.heap.size≤w6.heap.size:=hf6.size
         obtain ⟨qty,qid,qalg,qn,qe,qx,qy,qsec⟩:=q
         have e0:w6.cell? ⟨w4.heap.size,0,none⟩=some (.int .i64 qty):=(b6.cell 0).trans rfl
         have e1:w6.cell? ⟨w4.heap.size,1,none⟩=some (.string ⟨qid.toArray⟩):=(b6.cell 1).trans rfl
         have e2:w6.cell? ⟨w4.heap.size,2,none⟩=some (.string ⟨qalg.toArray⟩):=(b6.cell 2).trans rfl
         have e3:w6.cell? ⟨w4.heap.size,3,none⟩=some (.string ⟨qn.toArray⟩):=(b6.cell 3).trans rfl
         have e4:w6.cell? ⟨w4.heap.size,4,none⟩=some (.string ⟨qe.toArray⟩):=(b6.cell 4).trans rfl
         have e5:w6.cell? ⟨w4.heap.size,5,none⟩=some (.string ⟨qx.toArray⟩):=(b6.cell 5).trans rfl
         have e6:w6.cell? ⟨w4.heap.size,6,none⟩=some (.string ⟨qy.toArray⟩):=(b6.cell 6).trans rfl
         have e7:w6.cell? ⟨w4.heap.size,7,none⟩=some (.string ⟨qsec.toArray⟩):=(b6.cell 7).trans rfl
         clear hown5 hf5 HCT b4 p4 b6 f6 f4
         have ownA:=((Fr.refl NoB w6).alloc (.cells (kyC ⟨qty,qid,qalg,qn,qe,qx,qy,qsec⟩) 27)).row own6 (fun _ _ e=>e)
         go_wp2_with (at_builtin;go_loud (refine wpList_append_lies _ rfl _ _ 43 rfl U1.heap.size 27 i1 (.agg #[.int .i64 0,.string ⟨#[]⟩,.string ⟨#[]⟩,.string ⟨#[]⟩,.string ⟨#[]⟩,.string ⟨#[]⟩,.string ⟨#[]⟩,.string ⟨#[]⟩]) 8 120 Tryz.underlying43 hj0 hy0 hy1 hy2 rfl (by decide) u6 out.length (kyCs out) rfl ownA ⟨w6.heap.size,0,none⟩ 1 1 [.int .i64 qty,.string ⟨qid.toArray⟩,.string ⟨qalg.toArray⟩,.string ⟨qn.toArray⟩,.string ⟨qe.toArray⟩,.string ⟨qx.toArray⟩,.string ⟨qy.toArray⟩,.string ⟨qsec.toArray⟩] rfl rfl (World.news_of_block (cs := #[.int .i64 qty,.string ⟨qid.toArray⟩,.string ⟨qalg.toArray⟩,.string ⟨qn.toArray⟩,.string ⟨qe.toArray⟩,.string ⟨qx.toArray⟩,.string ⟨qy.toArray⟩,.string ⟨qsec.toArray⟩]) (t:=27) (fr:=(0,0)) (heap_alloc_new w6 _)) (by intro u hu;simp only [List.mem_cons,List.not_mem_nil,or_false] at hu;rcases hu with rfl|rfl|rfl|rfl|rfl|rfl|rfl|rfl<;>rfl) (by omega) (by have:=hol.out;unfold maxLen;omega) (by have:=hol.out;omega) (by simp;omega) (w6.heap.size+1) (by simp) ?_;intro g' cap' wl hown hgr hat hglt))
         have fA:Fr NoB U1 wl:=(hf6.alloc _).grown hgr (fun j hj hl=>absurd (hlo j hj).1 (by omega))
         have HOW:Hid (wl.ownsRow U1.heap.size 27 8 (.slice (some ⟨g',0,none⟩) (out.length+1) cap') (out++[(⟨qty,qid,qalg,qn,qe,qx,qy,qsec⟩:Ky)]).length (kyCs (out++[⟨qty,qid,qalg,qn,qe,qx,qy,qsec⟩]))):=Lib.hid (by rw [kyCs_snoc,List.length_append];exact hown)
         clear hown hgr hat ownA own6 e0 e1 e2 e3 e4 e5 e6 e7
         go_roundw
         case rel=>exact ⟨m+1,out++[⟨qty,qid,qalg,qn,qe,qx,qy,qsec⟩],by omega,by simp,Lib.hid (by rw [List.length_append,hol.out];rfl),HOW.out,HGo3,fA⟩
         case measure=>simp [intOf];omega
      ·obtain rfl:m=L.length:=by omega
       have hpos:0<out.length:=by have:=hol.out;omega
       have HRo:Hid (res=some out):=Lib.hid (by rw [HGo.out,List.drop_length];rfl)
       obtain rfl:res=some out:=HRo.out
       obtain ⟨gs,cc,rfl,hnc,hcb,hg1,hg2,hcell,hfz⟩:=keyown_form hown hpos
       have HCL:=Lib.hid (fun u=>kclip_any gs out.length cc u hnc)
       have HFI:Hid (∀ u,Fr NoB wr u→gs<u.heap.size∧(∀ (i:Nat) x,(kyCs out)[i]?=some x→u.cell? ⟨gs,i,none⟩=some x)∧(∀ i,u.frozen? ⟨gs,i,none⟩=false)):=Lib.hid (fun u f=>⟨Nat.lt_of_lt_of_le hg2 f.size,fun i x hx=>(f.cell (p:=⟨gs,i,none⟩) hg2 id).trans (hcell i x hx),fun i=>(World.frozen?_of_block (w:=wr) (f.block gs hg2 id)).trans (hfz i)⟩)
       have hF:=F2.trans hf
       have hsz:=F2.size
       clear hown hcell hfz HGo HOF HL HEL2
       go_wp2_with (go_at_call 51;((with_reducible refine (HCL.out _).mono ?_);rintro er w6 ⟨rfl,f6⟩))
       go_ret2
       obtain ⟨a1,a2,a3⟩:=HFI.out w6 f6
       exact ⟨⟨gs,rfl,hpos,by omega,a1,a2,a3⟩,hF.trans f6⟩
    ·have hl8':(8:Int)<(L.length:Int):=by omega
     rw [if_neg (fun e=>hl8 e.2.2)] at hres
     obtain rfl:res=none:=hres
     go_wp2_with fail
     go_ret2
     exact ⟨rfl,F2⟩
   ·have hl1':(L.length:Int)<1:=by omega
    rw [if_neg (fun e=>hl1 e.2.1)] at hres
    obtain rfl:res=none:=hres
    go_wp2_with fail
    go_ret2
    exact ⟨rfl,F2⟩
  ·rw [if_neg (fun e=>h5 e.1)] at hres
   obtain rfl:res=none:=hres
   go_wp2_with fail
   go_ret2
   exact ⟨rfl,F2⟩
 ·have hres:setK j=none:=by rw [setK,if_neg hc]
  rw [hres]
  have hci:¬ (checkP 0 j:Int)=0:=by omega
  generalize checkP 0 j=q at *
  clear HG hres
  go_enter Tryz.func18,Tryz.ntmps18
  go_upto_region 1 with fail
  generalize w.alloc (.cells #[v0,v1,v2,v3,v4] 31)=W at *
  go_wp2_with (first|(refine ldJ rfl _ rfl w.heap.size rfl b0 rfl ?_)|(go_at_call 41;((with_reducible refine HC1.out.mono ?_);rintro er w1 ⟨rfl,f1⟩)))
  go_ret2
  exact ⟨rfl,f0.trans f1⟩
theorem textT_le (j:Jv):(textT j).1.length≤65536:=by
 unfold textT
 split
 ·split
  ·simp
  ·simp only;omega
 ·simp
theorem in_sum:∀ {l:List (Bs×Bs)} {p:Bs×Bs},p∈l→p.2.length+p.1.length+6≤(l.map (fun p=>p.2.length+p.1.length+6)).sum
 | a::r,p,h=>by
  simp only [List.map_cons,List.sum_cons]
  rcases List.mem_cons.1 h with rfl|h
  ·omega
  ·have:=in_sum h;omega
 | [],p,h=>by cases h
theorem members_big {k:Ky} (h:szY k≤1048576):∀ p∈membersK k,p.1.length≤big∧p.2.length≤big:=fun p hp=>by
 have h1:=in_sum hp
 have h2:=mem_sz k
 unfold big
 omega
theorem kthumb_any {B:Nat} (k:Ky) (w:World) (hx:Cx B w) (hi:IntOk k.kty) (hz:szY k≤1048576) :
  Calls Tryz.prog 10 #[.agg (kyC k)] w fun e w'=>e=.returned (.tuple #[.string ⟨(if kyOk k then thumbP k else []).toArray⟩,.int .i64 (if kyOk k then 0 else 100)])∧Fr NoB w w':=by
 have hsm:=sm_of hi hz
 have b0:=Blk.new w 27 (kyC k)
 have f0:Fr NoB w (w.alloc (.cells (kyC k) 27)):=(Fr.refl _ _).alloc _
 have KC:Hid (∀ u,Calls Tryz.prog 12 #[.agg (kyC k)] u fun e w'=>e=.returned (.int .i64 (if kyOk k then 0 else 100))∧Fr NoB u w'):=Lib.hid (fun u=>kcheck_any k u hsm)
 cases hok:kyOk k with
 | false=>
  rw [hok] at KC
  obtain ⟨kty,kid,alg,n,e,x,y,sec⟩:=k
  clear hok
  go_enter Tryz.func10,Tryz.ntmps10
  go_upto_region 1 with fail
  generalize w.alloc (.cells (kyC ⟨kty,kid,alg,n,e,x,y,sec⟩) 27)=W at *
  have q0:W.cell? ⟨w.heap.size,0,none⟩=some (.int .i64 kty):=(b0.cell 0).trans rfl
  have q1:W.cell? ⟨w.heap.size,1,none⟩=some (.string ⟨kid.toArray⟩):=(b0.cell 1).trans rfl
  have q2:W.cell? ⟨w.heap.size,2,none⟩=some (.string ⟨alg.toArray⟩):=(b0.cell 2).trans rfl
  have q3:W.cell? ⟨w.heap.size,3,none⟩=some (.string ⟨n.toArray⟩):=(b0.cell 3).trans rfl
  have q4:W.cell? ⟨w.heap.size,4,none⟩=some (.string ⟨e.toArray⟩):=(b0.cell 4).trans rfl
  have q5:W.cell? ⟨w.heap.size,5,none⟩=some (.string ⟨x.toArray⟩):=(b0.cell 5).trans rfl
  have q6:W.cell? ⟨w.heap.size,6,none⟩=some (.string ⟨y.toArray⟩):=(b0.cell 6).trans rfl
  have q7:W.cell? ⟨w.heap.size,7,none⟩=some (.string ⟨sec.toArray⟩):=(b0.cell 7).trans rfl
  go_wp2_with (go_at_call 12;((with_reducible refine (KC.out _).mono ?_);rintro e w1 ⟨rfl,f1⟩))
  go_ret2
  exact ⟨rfl,f0.trans f1⟩
 | true=>
  rw [hok] at KC
  have KM:Hid (∀ u,Calls Tryz.prog 22 #[.agg (kyC k)] u fun e w'=>∃ g,e=.returned (.slice (some ⟨g,0,none⟩) (membersK k).length (membersK k).length)∧u.heap.size≤g∧Blk w' g 55 (memC (membersK k)).toArray∧Fr NoB u w'):=Lib.hid (fun u=>members_any k u (kty_of hok) hsm)
  have hML:=members_len k
  have KO:Hid (∀ u g,Blk u g 55 (memC (membersK k)).toArray→Calls Tryz.prog 26 #[.slice (some ⟨g,0,none⟩) (membersK k).length (membersK k).length] u fun e w'=>∃ v,e=.returned v∧RAt (All w') w' (thumbJ k) v∧Fr NoB u w'):=Lib.hid (fun u g hb=>by
   have:=object_any (membersK k) (.slice (some ⟨g,0,none⟩) (membersK k).length (membersK k).length) u (Or.inr ⟨g,0,_,rfl,hb.lt,fun i x hx=>by rw [Nat.zero_add,hb.cell];simpa using hx⟩) (by omega) (members_big hz)
   refine this.mono ?_
   rintro e w' ⟨v,rfl,h,f⟩
   exact ⟨v,rfl,RAt.mono (fun _ h=>h.2) _ _ h,f⟩)
  have htz:szJ (thumbJ k)≤8388608:=by have:=thumb_sz k;omega
  have KT:Hid (∀ u v,Fr NoB w u→RAt (All u) u (thumbJ k) v→Calls Tryz.prog 29 #[v] u fun e w'=>e=.returned (.tuple #[.string ⟨(textT (thumbJ k)).1.toArray⟩,.int .i64 ((textT (thumbJ k)).2:Int)])∧Fr NoB u w'):=Lib.hid (fun u v f h=>text_at (thumbJ k) v u (hx.fr0 f) h htz)
  have hsl:sumP (textT (thumbJ k)).1=sumP (textT (thumbJ k)).1:=rfl
  have hle:=textT_le (thumbJ k)
  have KS:Hid (∀ u,Calls Tryz.prog 31 #[.string ⟨(textT (thumbJ k)).1.toArray⟩] u fun e w'=>e=.returned (.string ⟨(sumP (textT (thumbJ k)).1).toArray⟩)∧Fr NoB u w'):=Lib.hid (fun u=>sum256_any _ u (by omega))
  have KB:Hid (∀ u,Calls Tryz.prog 30 #[.string ⟨(sumP (textT (thumbJ k)).1).toArray⟩] u fun e w'=>e=.returned (.string ⟨(thumbP k).toArray⟩)∧Fr NoB u w'):=Lib.hid (fun u=>base64_any _ u (by rw [sumP_len];omega))
  generalize thumbP k=TP at *
  generalize textT (thumbJ k)=TT at *
  obtain ⟨tx,te⟩:=TT
  simp only at KT KS KB hle
  generalize sumP tx=SM at *
  generalize thumbJ k=TJ at *
  generalize membersK k=M0 at *
  obtain ⟨kty,kid,alg,n,e,x,y,sec⟩:=k
  clear hok hsm hi hz htz hsl hx
  go_enter Tryz.func10,Tryz.ntmps10
  go_upto_region 1 with fail
  generalize w.alloc (.cells (kyC ⟨kty,kid,alg,n,e,x,y,sec⟩) 27)=W at *
  have q0:W.cell? ⟨w.heap.size,0,none⟩=some (.int .i64 kty):=(b0.cell 0).trans rfl
  have q1:W.cell? ⟨w.heap.size,1,none⟩=some (.string ⟨kid.toArray⟩):=(b0.cell 1).trans rfl
  have q2:W.cell? ⟨w.heap.size,2,none⟩=some (.string ⟨alg.toArray⟩):=(b0.cell 2).trans rfl
  have q3:W.cell? ⟨w.heap.size,3,none⟩=some (.string ⟨n.toArray⟩):=(b0.cell 3).trans rfl
  have q4:W.cell? ⟨w.heap.size,4,none⟩=some (.string ⟨e.toArray⟩):=(b0.cell 4).trans rfl
  have q5:W.cell? ⟨w.heap.size,5,none⟩=some (.string ⟨x.toArray⟩):=(b0.cell 5).trans rfl
  have q6:W.cell? ⟨w.heap.size,6,none⟩=some (.string ⟨y.toArray⟩):=(b0.cell 6).trans rfl
  have q7:W.cell? ⟨w.heap.size,7,none⟩=some (.string ⟨sec.toArray⟩):=(b0.cell 7).trans rfl
  have HQ:Hid (∀ u,Fr NoB W u→u.cell? ⟨w.heap.size,0,none⟩=some (.int .i64 kty)∧u.cell? ⟨w.heap.size,1,none⟩=some (.string ⟨kid.toArray⟩)∧u.cell? ⟨w.heap.size,2,none⟩=some (.string ⟨alg.toArray⟩)∧u.cell? ⟨w.heap.size,3,none⟩=some (.string ⟨n.toArray⟩)∧u.cell? ⟨w.heap.size,4,none⟩=some (.string ⟨e.toArray⟩)∧u.cell? ⟨w.heap.size,5,none⟩=some (.string ⟨x.toArray⟩)∧u.cell? ⟨w.heap.size,6,none⟩=some (.string ⟨y.toArray⟩)∧u.cell? ⟨w.heap.size,7,none⟩=some (.string ⟨sec.toArray⟩)):=Lib.hid (fun u f=>⟨f.celK q0,f.celK q1,f.celK q2,f.celK q3,f.celK q4,f.celK q5,f.celK q6,f.celK q7⟩)
  go_upto_region 4 with (go_at_call 12;((with_reducible refine (KC.out _).mono ?_);rintro er w1 ⟨rfl,f1⟩))
  obtain ⟨r0,r1,r2,r3,r4,r5,r6,r7⟩:=HQ.out w1 f1
  clear q0 q1 q2 q3 q4 q5 q6 q7 KC
  go_wp2_with (first|(go_at_call 22;((with_reducible refine (KM.out _).mono ?_);rintro er w2 ⟨g,rfl,hgs,hbm,f2⟩;have F2:=f0.trans (f1.trans f2)))|(go_at_call 26;((with_reducible refine (KO.out _ _ hbm).mono ?_);rintro er w3 ⟨v,rfl,hv,f3⟩;have F3:=F2.trans f3))|(go_at_call 29;((with_reducible refine (KT.out _ _ F3 hv).mono ?_);rintro er w4 ⟨rfl,f4⟩))|(go_at_call 31;((with_reducible refine (KS.out _).mono ?_);rintro er w5 ⟨rfl,f5⟩))|(go_at_call 30;((with_reducible refine (KB.out _).mono ?_);rintro er w6 ⟨rfl,f6⟩)))
  go_ret2
  exact ⟨rfl,F3.trans (f4.trans (f5.trans f6))⟩
theorem lof_any {B:Nat} (s:Bs) (j:Jv) (w:World) (hx:Cx B w) (hl:s.length≤65536) (hp:parseP s=.ok j) :
  Calls Tryz.prog 40 #[.string ⟨s.toArray⟩] w fun e w'=>∃ v,e=.returned v∧RAt (All w') w' j v∧Fr NoB w w':=by
 have HP:Hid (∀ u,Fr NoB w u→Calls Tryz.prog 77 #[.string ⟨s.toArray⟩] u fun e w'=>∃ v,e=.returned (.tuple #[v,.int .i64 0])∧RAt (Rng u.heap.size w'.heap.size) w' j v∧Fr NoB u w'):=Lib.hid (fun u f=>by
  refine (parse_any s u (hx.fr0 f) (by omega)).mono fun e w' h => ?_
  rw [hp] at h
  obtain ⟨v,rfl,hj,f⟩:=h
  exact ⟨v,rfl,hj.at_,f⟩)
 have b0:=Blk.new w 31 zj
 have f0:Fr NoB w (w.alloc (.cells zj 31)):=(Fr.refl _ _).alloc _
 have hsz:(w.alloc (.cells zj 31)).heap.size=w.heap.size+1:=by simp
 clear hp
 go_enter Tryz.func40,Tryz.ntmps40
 go_upto_region 1 with fail
 generalize w.alloc (.cells zj 31)=W at *
 go_upto_region 2 with (first|(go_at_call 77;((with_reducible refine (HP.out _ f0).mono ?_);rintro e u1 ⟨x1,rfl,h1,f1⟩;obtain ⟨x10,x11,x12,x13,x14,rfl,o1⟩:=h1.form;have n1:=Blk.new u1 31 zj))|(refine wpList_store_row rfl 31 _ _ rfl u1.heap.size #[x10,x11,x12,x13,x14] rfl rfl 31 zj n1 size_json rfl o1 ?_))
 obtain ⟨p1,b1⟩:=put_row u1 x10 x11 x12 x13 x14
 have F1:=f1.trans p1
 have bz:=F1.blk b0 id
 have R1:=RAt.fr (fun g hg=>p1.block g hg.2 id) _ _ h1
 have hs1:=p1.size
 clear n1 h1
 generalize (u1.alloc (.cells zj 31)).setRow u1.heap.size #[x10,x11,x12,x13,x14]=U1 at *
 go_wp2_with (first|(refine ldJ rfl _ rfl u1.heap.size rfl b1 rfl ?_)|(refine wpList_store_row rfl 31 _ _ rfl w.heap.size #[x10,x11,x12,x13,x14] rfl rfl 31 zj bz size_json rfl o1 ?_))
 exact bodyPost_ret (v:=.agg #[x10,x11,x12,x13,x14]) (results_cell_row (by rfl) _ _ w.heap.size _ _ _ _ rfl (bz.setRow _) Tryz.underlying31 rfl size_json) rfl ⟨_,rfl,RAt.mono (fun g hg=>by have:=hg.2;show g<(World.setRow _ _ _).heap.size;simp [World.setRow];omega) _ _ (RAt.fr (fun g hg=>setRow_other _ _ _ _ (by have:=hg.1;omega)) _ _ R1),(f0.trans F1).setRow w.heap.size _ (Or.inl (by omega))⟩
theorem gsame (u:World):(Op.equalIn 10000 27 (.agg #[.int .i64 2,.string ⟨#[]⟩,.string ⟨#[]⟩,.string ⟨#[]⟩,.string ⟨#[]⟩,.string ⟨#[]⟩,.string ⟨#[]⟩,.string ⟨#[97]⟩]) (.agg #[.int .i64 2,.string ⟨#[]⟩,.string ⟨#[]⟩,.string ⟨#[]⟩,.string ⟨#[]⟩,.string ⟨#[]⟩,.string ⟨#[]⟩,.string ⟨#[97]⟩])).run Tryz.prog u=.ok true u:=by kernel_rfl
theorem gsz1:szJ gJ1≤8388608:=Nat.le_of_ble_eq_true (by kernel_rfl)
theorem gsz2:szJ gJ2≤8388608:=Nat.le_of_ble_eq_true (by kernel_rfl)
theorem gsz3:szJ gJ3≤8388608:=Nat.le_of_ble_eq_true (by kernel_rfl)
theorem gszy:szY gk≤1048576:=Nat.le_of_ble_eq_true (by kernel_rfl)
theorem gint:IntOk gk.kty:=by unfold IntOk gk;simp
theorem ggot:gotP gJ3 nKeys=some (.mk 5 0 [] [] []):=by kernel_rfl
theorem kfixed_any {B:Nat} (w:World) (hx:Cx B w):Calls Tryz.prog 15 #[] w fun e w'=>e=.returned (.bool true)∧Fr NoB w w':=by
 have HL1:Hid (∀ u,Fr NoB w u→Calls Tryz.prog 40 #[.string ⟨#[123,34,107,34,58,34,89,81,34,44,34,107,116,121,34,58,34,111,99,116,34,44,34,120,34,58,49,125]⟩] u fun e w'=>∃ v,e=.returned v∧RAt (All w') w' gJ1 v∧Fr NoB u w'):=Lib.hid (fun u f=>lof_any gS1 gJ1 u (hx.fr0 f) (Nat.le_of_ble_eq_true rfl) gp1)
 have HL2:Hid (∀ u,Fr NoB w u→Calls Tryz.prog 40 #[.string ⟨#[123,34,107,34,58,34,89,81,34,44,34,107,116,121,34,58,34,111,99,116,34,44,34,107,105,100,34,58,34,34,125]⟩] u fun e w'=>∃ v,e=.returned v∧RAt (All w') w' gJ2 v∧Fr NoB u w'):=Lib.hid (fun u f=>lof_any gS2 gJ2 u (hx.fr0 f) (Nat.le_of_ble_eq_true rfl) gp2)
 have HL3:Hid (∀ u,Fr NoB w u→Calls Tryz.prog 40 #[.string ⟨#[123,34,107,101,121,115,34,58,91,93,125]⟩] u fun e w'=>∃ v,e=.returned v∧RAt (All w') w' gJ3 v∧Fr NoB u w'):=Lib.hid (fun u f=>lof_any gS3 gJ3 u (hx.fr0 f) (Nat.le_of_ble_eq_true rfl) gp3)
 have HO1:Hid (∀ u v,Fr NoB w u→RAt (All u) u gJ1 v→Calls Tryz.prog 16 #[v] u fun e w'=>e=.returned (.tuple #[.agg #[.int .i64 2,.string ⟨#[]⟩,.string ⟨#[]⟩,.string ⟨#[]⟩,.string ⟨#[]⟩,.string ⟨#[]⟩,.string ⟨#[]⟩,.string ⟨#[97]⟩],.int .i64 0])∧Fr NoB u w'):=Lib.hid (fun u v f h=>by
  have:=of_key_any gJ1 v u (hx.fr0 f) h gsz1 (JSm_of _ gsz1)
  rw [go1] at this
  exact this)
 have HO2:Hid (∀ u v,Fr NoB w u→RAt (All u) u gJ2 v→Calls Tryz.prog 16 #[v] u fun e w'=>e=.returned (.tuple #[.agg #[.int .i64 0,.string ⟨#[]⟩,.string ⟨#[]⟩,.string ⟨#[]⟩,.string ⟨#[]⟩,.string ⟨#[]⟩,.string ⟨#[]⟩,.string ⟨#[]⟩],.int .i64 100])∧Fr NoB u w'):=Lib.hid (fun u v f h=>by
  have:=of_key_any gJ2 v u (hx.fr0 f) h gsz2 (JSm_of _ gsz2)
  rw [go2] at this
  exact this)
 have HV:Hid (∀ u,Calls Tryz.prog 8 #[.agg #[.int .i64 2,.string ⟨#[49]⟩,.string ⟨#[]⟩,.string ⟨#[]⟩,.string ⟨#[]⟩,.string ⟨#[]⟩,.string ⟨#[]⟩,.string ⟨#[97]⟩]] u fun e w'=>∃ v,e=.returned (.tuple #[v,.int .i64 0])∧RAt (All w') w' (valK gk) v∧Fr NoB u w'):=Lib.hid (fun u=>by
  have:=value_any gk u (sm_of gint gszy)
  rw [gok] at this
  refine this.mono ?_
  rintro e w' ⟨v,rfl,h,f⟩
  exact ⟨v,rfl,RAt.mono (fun _ h=>h.2) _ _ h,f⟩)
 have hvz:szJ (valK gk)≤8388608:=by have:=val_sz gk;have:=gszy;omega
 have HT:Hid (∀ u v,Fr NoB w u→RAt (All u) u (valK gk) v→Calls Tryz.prog 29 #[v] u fun e w'=>e=.returned (.tuple #[.string ⟨#[123,34,107,34,58,34,89,81,34,44,34,107,105,100,34,58,34,49,34,44,34,107,116,121,34,58,34,111,99,116,34,125]⟩,.int .i64 0])∧Fr NoB u w'):=Lib.hid (fun u v f h=>by
  have:=text_at (valK gk) v u (hx.fr0 f) h hvz
  rw [gt1] at this
  exact this)
 have HS3:Hid (∀ u v,Fr NoB w u→RAt (All u) u gJ3 v→Calls Tryz.prog 18 #[v] u fun e w'=>e=.returned (.tuple #[.slice none 0 0,.int .i64 101])∧Fr NoB u w'):=Lib.hid (fun u v f h=>by
  have:=kset_any gJ3 v u (hx.fr0 f) h (JSm_of _ gsz3) (fun l hl=>by rw [ggot] at hl;cases hl;intro x hx;cases hx)
  rw [go3] at this
  exact this)
 have HTh:Hid (∀ u,Fr NoB w u→Calls Tryz.prog 10 #[.agg #[.int .i64 2,.string ⟨#[49]⟩,.string ⟨#[]⟩,.string ⟨#[]⟩,.string ⟨#[]⟩,.string ⟨#[]⟩,.string ⟨#[]⟩,.string ⟨#[97]⟩]] u fun e w'=>e=.returned (.tuple #[.string ⟨(b64P (sumP gT2)).toArray⟩,.int .i64 0])∧Fr NoB u w'):=Lib.hid (fun u f=>by
  have:=kthumb_any gk u (hx.fr0 f) gint gszy
  rw [gok,if_pos rfl,if_pos rfl,gth] at this
  exact this)
 have HS:Hid (∀ u,Calls Tryz.prog 31 #[.string ⟨#[123,34,107,34,58,34,89,81,34,44,34,107,116,121,34,58,34,111,99,116,34,125]⟩] u fun e w'=>e=.returned (.string ⟨(sumP gT2).toArray⟩)∧Fr NoB u w'):=Lib.hid (fun u=>sum256_any gT2 u (Nat.lt_of_le_of_lt (Nat.le_of_ble_eq_true rfl:gT2.length≤100) (by omega)))
 have HB:Hid (∀ u,Calls Tryz.prog 30 #[.string ⟨(sumP gT2).toArray⟩] u fun e w'=>e=.returned (.string ⟨(b64P (sumP gT2)).toArray⟩)∧Fr NoB u w'):=Lib.hid (fun u=>base64_any _ u (by rw [sumP_len];omega))
 generalize b64P (sumP gT2)=TH at *
 generalize sumP gT2=SM at *
 generalize valK gk=VJ at *
 have one1:((#[.int .i64 2,.string ⟨#[]⟩,.string ⟨#[]⟩,.string ⟨#[]⟩,.string ⟨#[]⟩,.string ⟨#[]⟩,.string ⟨#[]⟩,.string ⟨#[97]⟩]:Array Value).all (·.oneCell'))=true:=by simp [Value.oneCell']
 have one2:(zk.all (·.oneCell'))=true:=by simp [Value.oneCell']
 clear hvz
 go_enter Tryz.func15,Tryz.ntmps15
 go_upto_region 2 with (first|(go_at_call 40;((with_reducible refine (HL1.out _ (Fr.refl _ _)).mono ?_);rintro er u1 ⟨v1,rfl,h1,f1⟩))|(go_at_call 16;((with_reducible refine (HO1.out _ _ f1 h1).mono ?_);rintro er u2 ⟨rfl,f2⟩;have n2:=Blk.new u2 27 zk))|(refine wpList_store_row rfl 27 _ _ rfl u2.heap.size #[.int .i64 2,.string ⟨#[]⟩,.string ⟨#[]⟩,.string ⟨#[]⟩,.string ⟨#[]⟩,.string ⟨#[]⟩,.string ⟨#[]⟩,.string ⟨#[97]⟩] rfl rfl 27 _ n2 size_key rfl one1 ?_))
 have F2:=(f1.trans f2).trans (((Fr.refl NoB u2).alloc (.cells zk 27)).setRow u2.heap.size #[.int .i64 2,.string ⟨#[]⟩,.string ⟨#[]⟩,.string ⟨#[]⟩,.string ⟨#[]⟩,.string ⟨#[]⟩,.string ⟨#[]⟩,.string ⟨#[97]⟩] (Or.inl (Nat.le_refl _)))
 have b2:=n2.setRow #[.int .i64 2,.string ⟨#[]⟩,.string ⟨#[]⟩,.string ⟨#[]⟩,.string ⟨#[]⟩,.string ⟨#[]⟩,.string ⟨#[]⟩,.string ⟨#[97]⟩]
 clear n2 h1 f1 f2 one1
 generalize (u2.alloc (.cells zk 27)).setRow u2.heap.size #[.int .i64 2,.string ⟨#[]⟩,.string ⟨#[]⟩,.string ⟨#[]⟩,.string ⟨#[]⟩,.string ⟨#[]⟩,.string ⟨#[]⟩,.string ⟨#[97]⟩]=W2 at *
 go_upto_region 3 with (first|(go_at_call 40;((with_reducible refine (HL2.out _ F2).mono ?_);rintro er u3 ⟨v3,rfl,h3,f3⟩))|(go_at_call 16;((with_reducible refine (HO2.out _ _ (F2.trans f3) h3).mono ?_);rintro er u4 ⟨rfl,f4⟩;have n4:=Blk.new u4 27 zk))|(refine wpList_store_row rfl 27 _ _ rfl u4.heap.size zk rfl rfl 27 _ n4 size_key rfl one2 ?_))
 have g4:=(f3.trans f4).trans (((Fr.refl NoB u4).alloc (.cells zk 27)).setRow u4.heap.size zk (Or.inl (Nat.le_refl _)))
 have F4:=F2.trans g4
 have b3:=g4.blk b2 id
 clear n4 h3 f3 f4 one2 b2 g4
 generalize (u4.alloc (.cells zk 27)).setRow u4.heap.size zk=W4 at *
 go_upto_region 4 with (first|(go_at_call 8;((with_reducible refine (HV.out _).mono ?_);rintro er u5 ⟨v5,rfl,h5,f5⟩;obtain ⟨x0,x1,x2,x3,x4,rfl,o5⟩:=h5.form;have n5:=Blk.new u5 31 zj))|(refine wpList_store_row rfl 31 _ _ rfl u5.heap.size #[x0,x1,x2,x3,x4] rfl rfl 31 zj n5 size_json rfl o5 ?_))
 obtain ⟨p5,b5⟩:=put_row u5 x0 x1 x2 x3 x4
 have F5:=F4.trans (f5.trans p5)
 have b4:=(f5.trans p5).blk b3 id
 have R5:=h5.all p5
 clear n5 h5 f5 p5 b3 o5
 generalize (u5.alloc (.cells zj 31)).setRow u5.heap.size #[x0,x1,x2,x3,x4]=W5 at *
 go_upto_region 5 with (first|(refine ldJ rfl _ rfl u5.heap.size rfl b5 rfl ?_)|(go_at_call 29;((with_reducible refine (HT.out _ _ F5 R5).mono ?_);rintro er u6 ⟨rfl,f6⟩)))
 have F6:=F5.trans f6
 have b6:=f6.blk b4 id
 clear R5 b5 b4
 go_upto_region 6 with (first|(go_at_call 40;((with_reducible refine (HL3.out _ F6).mono ?_);rintro er u7 ⟨v7,rfl,h7,f7⟩))|(go_at_call 18;((with_reducible refine (HS3.out _ _ (F6.trans f7) h7).mono ?_);rintro er u8 ⟨rfl,f8⟩)))
 have F8:=F6.trans (f7.trans f8)
 have b8:=(f7.trans f8).blk b6 id
 clear h7 b6
 go_upto_region 7 with (go_at_call 10;((with_reducible refine (HTh.out _ F8).mono ?_);rintro er u9 ⟨rfl,f9⟩))
 have F9:=F8.trans f9
 have b9:=f9.blk b8 id
 have c0:u9.cell? ⟨u2.heap.size,0,none⟩=some (.int .i64 2):=(b9.cell 0).trans rfl
 have c1:u9.cell? ⟨u2.heap.size,1,none⟩=some (.string ⟨#[]⟩):=(b9.cell 1).trans rfl
 have c2:u9.cell? ⟨u2.heap.size,2,none⟩=some (.string ⟨#[]⟩):=(b9.cell 2).trans rfl
 have c3:u9.cell? ⟨u2.heap.size,3,none⟩=some (.string ⟨#[]⟩):=(b9.cell 3).trans rfl
 have c4:u9.cell? ⟨u2.heap.size,4,none⟩=some (.string ⟨#[]⟩):=(b9.cell 4).trans rfl
 have c5:u9.cell? ⟨u2.heap.size,5,none⟩=some (.string ⟨#[]⟩):=(b9.cell 5).trans rfl
 have c6:u9.cell? ⟨u2.heap.size,6,none⟩=some (.string ⟨#[]⟩):=(b9.cell 6).trans rfl
 have c7:u9.cell? ⟨u2.heap.size,7,none⟩=some (.string ⟨#[97]⟩):=(b9.cell 7).trans rfl
 have HE:=gsame
 clear b8 b9 HL1 HL2 HL3 HO1 HO2 HV HT HS3 HTh F2 F4 F5 F6 F8 f6 f7 f8 f9
 go_wp2_with (first|(go_at_call 31;((with_reducible refine (HS.out _).mono ?_);rintro er w1 ⟨rfl,f1⟩))|(go_at_call 30;((with_reducible refine (HB.out _).mono ?_);rintro er w2 ⟨rfl,f2⟩)))
 go_ret
 exact ⟨rfl,F9.trans (f1.trans f2)⟩
end Go.Proofs.YtbifjamddbpcjaaGreatDoor
