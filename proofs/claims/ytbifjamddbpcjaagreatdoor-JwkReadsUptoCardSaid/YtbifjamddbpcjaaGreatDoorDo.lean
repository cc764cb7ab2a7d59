/- Keys. -/
import Derived.Test.YtbifjamddbpcjaaGreatDoorDj
import Derived.Test.YtbifjamddbpcjaaGreatDoorDf
import Derived.Test.YtbifjamddbpcjaaGreatDoorDa
import Derived.Test.YtbifjamddbpcjaaGreatDoorYr
import Derived.Test.YtbifjamddbpcjaaGreatDoorYf
namespace Go.Proofs.YtbifjamddbpcjaaGreatDoor
set_option maxRecDepth 100000
set_option maxHeartbeats 25600000
open Go.RowKit
theorem dword_any (s:Bs) (w:World) (hl:s.length≤4398046511104):Calls Tryz.prog 37 #[.string ⟨s.toArray⟩] w fun e w'=>e=.returned (.bool (wordK s))∧w'=w:=by
 obtain ⟨res,hres⟩:∃ r,r=wordK s:=⟨_,rfl⟩
 rw [← hres]
 have HRS:=Lib.hid hres
 clear hres
 go_enter Tryz.func37,Tryz.ntmps37
 go_wp2_with fail
 go_loopw [3] (fun v wr=>∃ m:Nat,m≤s.length∧v=.int .i64 m∧(∀ (j:Nat) c,j<m→s[j]?=some c→okC c=true)∧wr=w) (fun v _=>s.length - (intOf v).toNat)
 case atStart=>exact ⟨0,Nat.zero_le _,rfl,fun j c h=>by omega,rfl⟩
 case round=>
  obtain ⟨m,hm,rfl,hok,rfl⟩:=hrel
  have hsz:(⟨s.toArray⟩:ByteArray).size=s.length:=rfl
  by_cases hlt:m<s.length
  ·have k1:(0:Int)≤m:=by omega
   have k2:(m:Int)<s.length:=by omega
   have hg:=get_list s m hlt
   have HA:=Lib.hid (List.getElem?_eq_getElem hlt)
   have HOK:=Lib.hid hok
   clear hok
   generalize s[m]=c at *
   have hc:=c.toNat_lt
   by_cases h1:(c.toNat:Int)<33
   ·go_wp2_with fail
    go_ret
    exact ⟨by rw [HRS.out,word_no HA.out (by unfold okC;simp;omega)];rfl,rfl⟩
   ·by_cases h2:(126:Int)<c.toNat
    ·go_wp2_with fail
     go_ret
     exact ⟨by rw [HRS.out,word_no HA.out (by unfold okC;simp;omega)];rfl,rfl⟩
    ·go_wp2_with fail
     go_roundw
     case rel=>
      refine ⟨m+1,by omega,by simp,fun j x hj hx => ?_,trivial⟩
      by_cases hjm:j=m
      ·subst hjm
       rw [HA.out] at hx
       cases hx
       unfold okC;simp;omega
      ·exact HOK.out j x (by omega) hx
     case measure=>simp [intOf];omega
  ·obtain rfl:m=s.length:=by omega
   have HW:=Lib.hid (word_yes hok)
   clear hok
   by_cases h6:(s.length:Int)≤64
   ·go_wp2_with fail
    go_ret
    exact ⟨by rw [HRS.out,HW.out];simp;omega,rfl⟩
   ·go_wp2_with fail
    go_ret
    exact ⟨by rw [HRS.out,HW.out];simp;omega,rfl⟩
theorem cat3 (a b c:Bs):((⟨a.toArray⟩:ByteArray)++⟨b.toArray⟩++⟨c.toArray⟩).toList.isEmpty=decide (a++b++c=[]):=by
 rw [ba_app,ba_app,ByteArray.toList_eq,ByteArray.toList_eq,ByteArray.toList_eq]
 cases a<;>cases b<;>cases c<;>simp
theorem cat4 (a b c d:Bs):((⟨a.toArray⟩:ByteArray)++⟨b.toArray⟩++⟨c.toArray⟩++⟨d.toArray⟩).toList.isEmpty=decide (a++b++c++d=[]):=by
 rw [ba_app,ba_app,ba_app,ByteArray.toList_eq,ByteArray.toList_eq,ByteArray.toList_eq,ByteArray.toList_eq]
 cases a<;>cases b<;>cases c<;>cases d<;>simp
structure KyDoc (k:Ky):Prop where
 kid:k.kid.length≤lot
 alg:k.alg.length≤lot
 n:k.n.length≤33554432
 e:k.e.length≤33554432
 x:k.x.length≤33554432
 y:k.y.length≤33554432
 sec:k.sec.length≤33554432
theorem dcheck_any (k:Ky) (w:World) (hsm:KyDoc k) :
  Calls Tryz.prog 13 #[.agg (kyC k)] w fun e w'=>e=.returned (.int .i64 (if kyOk k then 0 else 100))∧Fr NoB w w':=by
 have K1:=Lib.hid (fun u=>dword_any k.kid u hsm.kid)
 have K2:=Lib.hid (fun u=>dword_any k.alg u hsm.alg)
 have KR:=Lib.hid (fun u=>d4check_any k.n k.e u hsm.n hsm.e)
 have KE:=Lib.hid (fun u=>d5check_any k.x k.y u)
 have hs:=hsm.sec
 have hln:k.n.length≤33554432:=hsm.n
 have hle:k.e.length≤33554432:=hsm.e
 have hlx:k.x.length≤33554432:=hsm.x
 have hly:k.y.length≤33554432:=hsm.y
 obtain ⟨okv,hokv⟩:∃ b,b=kyOk k:=⟨_,rfl⟩
 rw [← hokv]
 have HK:Hid (okv=((wordK k.kid&&wordK k.alg) &&
  (if k.kty=0 then rsaP k.n k.e&&decide (k.x++k.y++k.sec=[])
  else if k.kty=1 then ecP k.x k.y&&decide (k.n++k.e++k.sec=[])
  else if k.kty=2 then decide (1≤k.sec.length)&&decide (k.sec.length≤128)&&decide (k.x++k.y++k.n++k.e=[])
  else false))):=Lib.hid (by rw [hokv];exact rcheck_is k)
 clear hokv hsm
 have b0:=Blk.new w 27 (kyC k)
 have f0:Fr NoB w (w.alloc (.cells (kyC k) 27)):=(Fr.refl _ _).alloc _
 obtain ⟨kty,kid,alg,n,e,x,y,sec⟩:=k
 simp only at K1 K2 KR KE hs hln hle hlx hly HK
 have hsz:(⟨sec.toArray⟩:ByteArray).size=sec.length:=rfl
 go_enter Tryz.func13,Tryz.ntmps13
 go_upto_region 1 with fail
 generalize w.alloc (.cells (kyC ⟨kty,kid,alg,n,e,x,y,sec⟩) 27)=W at *
 have q0:W.cell? ⟨w.heap.size,0,none⟩=some (.int .i64 kty):=(b0.cell 0).trans rfl
 have q1:W.cell? ⟨w.heap.size,1,none⟩=some (.string ⟨kid.toArray⟩):=(b0.cell 1).trans rfl
 have q2:W.cell? ⟨w.heap.size,2,none⟩=some (.string ⟨alg.toArray⟩):=(b0.cell 2).trans rfl
 have q3:W.cell? ⟨w.heap.size,3,none⟩=some (.string ⟨n.toArray⟩):=(b0.cell 3).trans rfl
 have q4:W.cell? ⟨w.heap.size,4,none⟩=some (.string ⟨e.toArray⟩):=(b0.cell 4).trans rfl
 have q5:W.cell? ⟨w.heap.size,5,none⟩=some (.string ⟨x.toArray⟩):=(b0.cell 5).trans rfl
 have q6:W.cell? ⟨w.heap.size,6,none⟩=some (.string ⟨y.toArray⟩):=(b0.cell 6).trans rfl
 have q7:W.cell? ⟨w.heap.size,7,none⟩=some (.string ⟨sec.toArray⟩):=(b0.cell 7).trans rfl
 clear b0
 generalize wordK kid=b1 at *
 generalize wordK alg=b2 at *
 obtain ⟨okb,hokb⟩:∃ b,b=(b1&&b2):=⟨_,rfl⟩
 rw [← hokb] at HK
 have HOB:=Lib.hid hokb
 clear hokb
 go_cut [3] (fun v3 wx=>v3=.bool okb∧wx=W)
 case first=>
  cases b1 with
  | false=>
   go_wp2_with (go_at_call 37;((with_reducible refine (K1.out _).mono ?_);rintro e w1 ⟨rfl,rfl⟩))
   go_meet
   exact ⟨by rw [HOB.out];rfl,rfl⟩
  | true=>
   go_wp2_with (go_at_call 37;first|((with_reducible refine (K1.out _).mono ?_);rintro e w1 ⟨rfl,rfl⟩)|((with_reducible refine (K2.out _).mono ?_);rintro e w1 ⟨rfl,rfl⟩))
   go_meet
   exact ⟨by rw [HOB.out,Bool.true_and],rfl⟩
 case rest=>
 obtain ⟨rfl,rfl⟩:=hcut
 clear HOB K1 K2
 have HF:Hid (okb=false→okv=false):=Lib.hid (fun h=>by rw [HK.out,h];rfl)
 by_cases e0:kty=0
 ·subst e0
  have HK0:Hid (okv=(okb&&(rsaP n e&&decide (x++y++sec=[])))):=Lib.hid HK.out
  clear HK
  cases okb with
  | false=>
   have hr:okv=false:=HF.out rfl
   subst hr
   go_wp2_with fail
   go_ret
   exact ⟨rfl,f0⟩
  | true=>
   generalize rsaP n e=rb at *
   cases rb with
   | false=>
    have hr:okv=false:=HK0.out
    subst hr
    go_wp2_with (go_at_call 38;((with_reducible refine (KR.out _).mono ?_);rintro e w1 ⟨rfl,f1⟩))
    go_ret
    exact ⟨rfl,f0.trans f1⟩
   | true=>
    by_cases hc:x++y++sec=[]
    ·have hr:okv=true:=by rw [HK0.out,decide_eq_true hc];rfl
     have hcat:=cat3 x y sec
     rw [decide_eq_true hc] at hcat
     subst hr
     go_wp2_with (go_at_call 38;((with_reducible refine (KR.out _).mono ?_);rintro e w1 ⟨rfl,f1⟩;have c5:=f1.celK q5;have c6:=f1.celK q6;have c7:=f1.celK q7))
     go_ret
     exact ⟨rfl,f0.trans f1⟩
    ·have hr:okv=false:=by rw [HK0.out,decide_eq_false hc];rfl
     have hcat:=cat3 x y sec
     rw [decide_eq_false hc] at hcat
     subst hr
     go_wp2_with (go_at_call 38;((with_reducible refine (KR.out _).mono ?_);rintro e w1 ⟨rfl,f1⟩;have c5:=f1.celK q5;have c6:=f1.celK q6;have c7:=f1.celK q7))
     go_ret
     exact ⟨rfl,f0.trans f1⟩
 ·by_cases e1:kty=1
  ·subst e1
   have HK0:Hid (okv=(okb&&(ecP x y&&decide (n++e++sec=[])))):=Lib.hid HK.out
   clear HK
   cases okb with
   | false=>
    have hr:okv=false:=HF.out rfl
    subst hr
    go_wp2_with fail
    go_ret
    exact ⟨rfl,f0⟩
   | true=>
    generalize ecP x y=rb at *
    cases rb with
    | false=>
     have hr:okv=false:=HK0.out
     subst hr
     go_wp2_with (go_at_call 39;((with_reducible refine (KE.out _).mono ?_);rintro e w1 ⟨rfl,f1⟩))
     go_ret
     exact ⟨rfl,f0.trans f1⟩
    | true=>
     by_cases hc:n++e++sec=[]
     ·have hr:okv=true:=by rw [HK0.out,decide_eq_true hc];rfl
      have hcat:=cat3 n e sec
      rw [decide_eq_true hc] at hcat
      subst hr
      go_wp2_with (go_at_call 39;((with_reducible refine (KE.out _).mono ?_);rintro e w1 ⟨rfl,f1⟩;have c3:=f1.celK q3;have c4:=f1.celK q4;have c7:=f1.celK q7))
      go_ret
      exact ⟨rfl,f0.trans f1⟩
     ·have hr:okv=false:=by rw [HK0.out,decide_eq_false hc];rfl
      have hcat:=cat3 n e sec
      rw [decide_eq_false hc] at hcat
      subst hr
      go_wp2_with (go_at_call 39;((with_reducible refine (KE.out _).mono ?_);rintro e w1 ⟨rfl,f1⟩;have c3:=f1.celK q3;have c4:=f1.celK q4;have c7:=f1.celK q7))
      go_ret
      exact ⟨rfl,f0.trans f1⟩
  ·by_cases e2:kty=2
   ·subst e2
    have HK0:Hid (okv=(okb&&(decide (1≤sec.length)&&decide (sec.length≤128)&&decide (x++y++n++e=[])))):=Lib.hid HK.out
    clear HK
    cases okb with
    | false=>
     have hr:okv=false:=HF.out rfl
     subst hr
     go_wp2_with fail
     go_ret
     exact ⟨rfl,f0⟩
    | true=>
     by_cases h1:1≤sec.length
     rotate_left
     ·have hr:okv=false:=by rw [HK0.out,decide_eq_false h1];rfl
      have k1:¬ (1:Int)≤sec.length:=by omega
      subst hr
      go_wp2_with fail
      go_ret
      exact ⟨rfl,f0⟩
     ·have k1:(1:Int)≤sec.length:=by omega
      by_cases h2:sec.length≤128
      rotate_left
      ·have hr:okv=false:=by rw [HK0.out,decide_eq_false h2];simp
       have k2:¬ (sec.length:Int)≤128:=by omega
       subst hr
       go_wp2_with fail
       go_ret
       exact ⟨rfl,f0⟩
      ·have k2:(sec.length:Int)≤128:=by omega
       by_cases hc:x++y++n++e=[]
       ·have hr:okv=true:=by rw [HK0.out,decide_eq_true hc,decide_eq_true h1,decide_eq_true h2];rfl
        have hcat:=cat4 x y n e
        rw [decide_eq_true hc] at hcat
        subst hr
        go_wp2_with fail
        go_ret
        exact ⟨rfl,f0⟩
       ·have hr:okv=false:=by rw [HK0.out,decide_eq_false hc];simp
        have hcat:=cat4 x y n e
        rw [decide_eq_false hc] at hcat
        subst hr
        go_wp2_with fail
        go_ret
        exact ⟨rfl,f0⟩
   ·have hr:okv=false:=by rw [HK.out,if_neg e0,if_neg e1,if_neg e2,Bool.and_false]
    subst hr
    go_wp2_with fail
    go_ret
    exact ⟨rfl,f0⟩
theorem pl_here:∀ {ks:List Bs} {key:Bs} {m:Nat} (hm:m<ks.length),ks[m]=key→(∀ p,plK key ks=some p→m≤p)→plK key ks=some m
 | [],_,_,hm,_,_=>by simp at hm
 | k::r,key,0,_,h,_=>by
  have h':k=key:=h
  rw [plK,if_pos h']
 | k::r,key,m+1,hm,h,hb=>by
  rw [plK] at hb ⊢
  by_cases hk:k=key
  ·rw [if_pos hk] at hb
   have:=hb 0 rfl
   omega
  ·rw [if_neg hk] at hb ⊢
   rw [pl_here (m:=m) (by simpa using hm) (by simpa using h) (fun p hp=>by have:=hb (p+1) (by rw [hp];rfl);omega)]
   rfl
theorem pl_next:∀ {ks:List Bs} {key:Bs} {m:Nat} (hm:m<ks.length),ks[m]≠key→(∀ p,plK key ks=some p→m≤p)→∀ p,plK key ks=some p→m+1≤p
 | [],_,_,hm,_,_=>by simp at hm
 | k::r,key,0,_,h,_=>by
  have h':k≠key:=h
  intro p hp
  rw [plK,if_neg h'] at hp
  obtain ⟨q,_,rfl⟩:=Option.map_eq_some_iff.1 hp
  omega
 | k::r,key,m+1,hm,h,hb=>by
  intro p hp
  rw [plK] at hb hp
  by_cases hk:k=key
  ·rw [if_pos hk] at hb
   have:=hb 0 rfl
   omega
  ·rw [if_neg hk] at hb hp
   obtain ⟨q,hq,rfl⟩:=Option.map_eq_some_iff.1 hp
   have:=pl_next (m:=m) (by simpa using hm) (by simpa using h) (fun p hp=>by have:=hb (p+1) (by rw [hp];rfl);omega) q hq
   omega
theorem pl_none {ks:List Bs} {key:Bs} (hb:∀ p,plK key ks=some p→ks.length≤p):plK key ks=none:=by
 cases hx:plK key ks with
 | none=>rfl
 | some p=>
  have h1:=hb p hx
  have h2:=plK_lt hx
  omega
theorem dmember_any (S:Nat→Prop) (j:Jv) (v:Value) (key:Bs) (w:World) (hS:∀ g,S g→g<w.heap.size) (hat:RAt S w j v) (hok:JvOk j) :
  Calls Tryz.prog 47 #[v,.string ⟨key.toArray⟩] w fun e w'=>∃ u,e=.returned (.tuple #[u,.bool (gotP j key).isSome])∧RAt S w' ((gotP j key).getD Jv.nul) u∧Fr NoB w w':=by
 cases j with
 | mk k i t l ks=>
 simp only [RAt] at hat
 obtain ⟨lv,kv,rfl,hk,hi,ht,hks,hl,cs,hcs,hlm⟩:=hat
 obtain ⟨la,lc,rfl⟩:=hlm.sl
 obtain ⟨ka,kc,rfl⟩:=hks.1.sl
 have hkl:=hks.2.1
 unfold big at hl hkl
 have hgp:gotP (.mk k i t l ks) key=if k=6 then (plK key ks).bind (fun i=>l[i]?) else none:=rfl
 rw [hgp]
 generalize hQ:(if k=6 then (plK key ks).bind (fun i=>l[i]?) else none)=q
 have HQ:=Lib.hid hQ
 clear hQ hgp
 have f:Fr NoB w ((w.alloc (.cells #[.int .i64 k,.int .i64 i,.string ⟨t.toArray⟩,.slice la l.length lc,.slice ka ks.length kc] 31)).alloc (.cells zj 31)):=((Fr.refl _ _).alloc _).alloc _
 have g0:Blk ((w.alloc (.cells #[.int .i64 k,.int .i64 i,.string ⟨t.toArray⟩,.slice la l.length lc,.slice ka ks.length kc] 31)).alloc (.cells zj 31)) w.heap.size 31 #[.int .i64 k,.int .i64 i,.string ⟨t.toArray⟩,.slice la l.length lc,.slice ka ks.length kc]:=(Blk.new w 31 _).alloc _
 have g1:Blk ((w.alloc (.cells #[.int .i64 k,.int .i64 i,.string ⟨t.toArray⟩,.slice la l.length lc,.slice ka ks.length kc] 31)).alloc (.cells zj 31)) (w.heap.size+1) 31 zj:=by
  have:=Blk.new (w.alloc (.cells #[.int .i64 k,.int .i64 i,.string ⟨t.toArray⟩,.slice la l.length lc,.slice ka ks.length kc] 31)) 31 zj
  simpa using this
 generalize hW:(w.alloc (.cells #[.int .i64 k,.int .i64 i,.string ⟨t.toArray⟩,.slice la l.length lc,.slice ka ks.length kc] 31)).alloc (.cells zj 31)=W at f g0 g1
 have HW:=Lib.hid hW
 have c0:W.cell? ⟨w.heap.size,0,none⟩=some (.int .i64 k):=(g0.cell 0).trans rfl
 have c3:W.cell? ⟨w.heap.size,3,none⟩=some (.slice la l.length lc):=(g0.cell 3).trans rfl
 have c4:W.cell? ⟨w.heap.size,4,none⟩=some (.slice ka ks.length kc):=(g0.cell 4).trans rfl
 have hone:(zj.all (·.oneCell'))=true:=one_json _ _ _ _ _ _ _ _ _
 clear hW g0
 by_cases h6:k=6
 ·subst h6
  have hle:ks.length=l.length:=hok rfl
  have HLE:=Lib.hid hle
  have HL:=Lib.hid (And.intro hcs (And.intro hlm hks.1))
  clear hcs hlm hks hle
  go_enter Tryz.func47,Tryz.ntmps47
  go_wp2_with (rw [HW.out])
  go_loopw [6] (fun v6 wr=>∃ m:Nat,m≤ks.length∧v6=.int .i64 m∧wr=W∧Hid (∀ p,plK key ks=some p→m≤p)) (fun v6 _=>ks.length - (intOf v6).toNat)
  case atStart=>exact ⟨0,Nat.zero_le _,rfl,rfl,Lib.hid (fun _ _=>Nat.zero_le _)⟩
  case round=>
   obtain ⟨m,hm,rfl,rfl,HI⟩:=hrel
   by_cases hlt:m<ks.length
   ·have i1:(0:Int)≤m:=by omega
    have i2:(m:Int)<ks.length:=by omega
    have hll:m<l.length:=by have:=HLE.out;omega
    have i3:(m:Int)<l.length:=by omega
    obtain ⟨hcs,hlm,hkm⟩:=HL.out
    have hSk:∃ gk ok,ka=some ⟨gk,ok,none⟩∧∀ (i:Nat) x,(ks.map sV)[i]?=some x→wr.cell? ⟨gk,ok+i,none⟩=some x:=by
     rcases hkm with ⟨h0,_⟩|⟨g,o,c,he,hg,hc⟩
     ·omega
     ·simp only [Value.slice.injEq,true_and] at he
      obtain ⟨rfl,rfl⟩:=he
      exact ⟨g,o,rfl,fun i x hx=>(f.cell (p:=⟨g,o+i,none⟩) (hS g hg) id).trans (hc i x hx)⟩
    have hSl:∃ gl ol,la=some ⟨gl,ol,none⟩∧∀ (i:Nat) x,cs[i]?=some x→wr.cell? ⟨gl,ol+i,none⟩=some x:=by
     rcases hlm with ⟨h0,_⟩|⟨g,o,c,he,hg,hc⟩
     ·omega
     ·simp only [Value.slice.injEq,true_and] at he
      obtain ⟨rfl,rfl⟩:=he
      exact ⟨g,o,rfl,fun i x hx=>(f.cell (p:=⟨g,o+i,none⟩) (hS g hg) id).trans (hc i x hx)⟩
    obtain ⟨gk,ok,rfl,hkc⟩:=hSk
    obtain ⟨gl,ol,rfl,hlc⟩:=hSl
    have dk:=hkc m (sV ks[m]) (by simp [hlt])
    clear hkc hkm
    by_cases hq:ks[m]=key
    ·have hidx:=pl_here hlt hq HI.out
     obtain rfl:some l[m]=q:=by rw [← HQ.out];simp [hidx,hll]
     clear HQ hidx HL HI
     rw [hq] at dk
     obtain ⟨v0,v1,v2,v3,v4,a0,a1,a2,a3,a4,hatx⟩:=RCells.get l cs m hll hcs
     have d0:wr.cell? ⟨gl,ol+m*5,none⟩=some v0:=hlc _ _ a0
     have d1:wr.cell? ⟨gl,ol+m*5+1,none⟩=some v1:=hlc _ _ a1
     have d2:wr.cell? ⟨gl,ol+m*5+2,none⟩=some v2:=hlc _ _ a2
     have d3:wr.cell? ⟨gl,ol+m*5+3,none⟩=some v3:=hlc _ _ a3
     have d4:wr.cell? ⟨gl,ol+m*5+4,none⟩=some v4:=hlc _ _ a4
     have h1c:=all_one hatx.one
     clear hlc a0 a1 a2 a3 a4 hone hq
     go_wp2_with (refine wpList_store_row rfl 31 _ _ rfl (w.heap.size+1) #[v0,v1,v2,v3,v4] rfl rfl 31 zj g1 size_json rfl h1c ?_)
     have fS:=f.setRow (w.heap.size+1) #[v0,v1,v2,v3,v4] (Or.inl (by omega))
     exact bodyPost_ret (v:=.tuple #[.agg #[v0,v1,v2,v3,v4],.bool true]) (get_back rfl _ _ (w.heap.size+1) _ _ _ _ _ _ rfl rfl (g1.setRow #[v0,v1,v2,v3,v4])) rfl ⟨_,rfl,RAt.fr (fun g hg=>fS.block g (hS g hg) id) _ _ hatx,fS⟩
    ·have hq2:(ks[m]==key)=false:=by simpa using hq
     have hq3:¬ ((⟨(ks[m]).toArray⟩:ByteArray)=⟨key.toArray⟩):=by simpa [ba_inj] using hq
     have HI2:=Lib.hid (pl_next hlt hq HI.out)
     clear hlc hlm hcs HI
     generalize ks[m]=qk at dk hq hq2 hq3
     go_wp2_with fail
     go_roundw
     case rel=>exact ⟨m+1,by omega,by simp,trivial,HI2⟩
     case measure=>simp [intOf];omega
   ·obtain rfl:m=ks.length:=by omega
    obtain rfl:none=q:=by rw [← HQ.out,pl_none HI.out];rfl
    clear HQ
    go_wp2_with (refine wpList_store_row rfl 31 _ _ rfl (w.heap.size+1) zj rfl rfl 31 zj g1 size_json rfl hone ?_)
    exact bodyPost_ret (v:=.tuple #[jV 0 0 [] (.slice none 0 0) (.slice none 0 0),.bool false]) (get_back rfl _ _ (w.heap.size+1) _ _ _ _ _ _ rfl rfl (g1.setRow zj)) rfl ⟨_,rfl,nul_at _ _,f.setRow (w.heap.size+1) _ (Or.inl (by omega))⟩
 ·obtain rfl:none=q:=by rw [← HQ.out,if_neg h6]
  clear HQ hcs hlm hks
  go_enter Tryz.func47,Tryz.ntmps47
  go_wp2_with (rw [HW.out])
  go_loopw [6] (fun v6 wr=>v6=.int .i64 0∧wr=W) (fun _ _=>0)
  case atStart=>exact ⟨rfl,rfl⟩
  case round=>
   obtain ⟨rfl,rfl⟩:=hrel
   by_cases h0:(0:Int)<ks.length
   ·go_wp2_with (refine wpList_store_row rfl 31 _ _ rfl (w.heap.size+1) zj rfl rfl 31 zj g1 size_json rfl hone ?_)
    exact bodyPost_ret (v:=.tuple #[jV 0 0 [] (.slice none 0 0) (.slice none 0 0),.bool false]) (get_back rfl _ _ (w.heap.size+1) _ _ _ _ _ _ rfl rfl (g1.setRow zj)) rfl ⟨_,rfl,nul_at _ _,f.setRow (w.heap.size+1) _ (Or.inl (by omega))⟩
   ·go_wp2_with (refine wpList_store_row rfl 31 _ _ rfl (w.heap.size+1) zj rfl rfl 31 zj g1 size_json rfl hone ?_)
    exact bodyPost_ret (v:=.tuple #[jV 0 0 [] (.slice none 0 0) (.slice none 0 0),.bool false]) (get_back rfl _ _ (w.heap.size+1) _ _ _ _ _ _ rfl rfl (g1.setRow zj)) rfl ⟨_,rfl,nul_at _ _,f.setRow (w.heap.size+1) _ (Or.inl (by omega))⟩
theorem dtext_any (j:Jv) (v:Value) (key:Bs) (w:World) (hat:RAt (All w) w j v) (hok:JvOk j) :
  Calls Tryz.prog 45 #[v,.string ⟨key.toArray⟩] w fun e w'=>e=.returned (.tuple #[.string ⟨(rText j key).toArray⟩,.bool (rIs j key)])∧Fr NoB w w':=by
 obtain ⟨v0,v1,v2,v3,v4,rfl,hone⟩:=hat.form
 have b0:=Blk.new w 31 #[v0,v1,v2,v3,v4]
 have f0:Fr NoB w (w.alloc (.cells #[v0,v1,v2,v3,v4] 31)):=(Fr.refl _ _).alloc _
 have HG:Hid (∀ u,Fr NoB w u→Calls Tryz.prog 47 #[.agg #[v0,v1,v2,v3,v4],.string ⟨key.toArray⟩] u fun e w'=>∃ x,e=.returned (.tuple #[x,.bool (gotP j key).isSome])∧RAt (All u) w' ((gotP j key).getD Jv.nul) x∧Fr NoB u w'):=Lib.hid (fun u f=>dmember_any (All u) j _ key u (fun _ h=>h) (hat.all f) hok)
 have HT:Hid (rText j key=((gotP j key).getD Jv.nul).text∧rIs j key=((gotP j key).isSome&&decide (((gotP j key).getD Jv.nul).kind=4))):=Lib.hid (by unfold rText rIs;cases gotP j key<;>exact ⟨rfl,rfl⟩)
 have HTX:Hid (rText j key=((gotP j key).getD Jv.nul).text):=Lib.hid HT.out.1
 have HTI:Hid (rIs j key=((gotP j key).isSome&&decide (((gotP j key).getD Jv.nul).kind=4))):=Lib.hid HT.out.2
 clear HT
 generalize rText j key=tx at *
 generalize rIs j key=ti at *
 generalize (gotP j key).getD Jv.nul=J at *
 generalize (gotP j key).isSome=bj at *
 clear hat
 go_enter Tryz.func45,Tryz.ntmps45
 go_upto_region 1 with fail
 generalize w.alloc (.cells #[v0,v1,v2,v3,v4] 31)=W at *
 have HG1:=Lib.hid (HG.out W f0)
 clear HG
 go_upto_region 2 with (first|(refine ldJ rfl _ rfl w.heap.size rfl b0 rfl ?_)|(go_at_call 47;((with_reducible refine HG1.out.mono ?_);rintro e u1 ⟨x1,rfl,h1,f1⟩;obtain ⟨x10,x11,x12,x13,x14,rfl,o1⟩:=h1.form;have n1:=Blk.new u1 31 zj))|(refine wpList_store_row rfl 31 _ _ rfl u1.heap.size #[x10,x11,x12,x13,x14] rfl rfl 31 zj n1 size_json rfl o1 ?_))
 obtain ⟨p1,b1⟩:=put_row u1 x10 x11 x12 x13 x14
 have F1:=f0.trans (f1.trans p1)
 obtain ⟨rfl,-,rfl,hbig⟩:=h1.get5
 obtain ⟨c0,c1,c2,c3,c4⟩:=b1.five
 clear h1 n1 HG1 b0 b1 p1 f1 f0
 generalize (u1.alloc (.cells zj 31)).setRow u1.heap.size #[.int .i64 J.kind,x11,.string ⟨J.text.toArray⟩,x13,x14]=U1 at *
 generalize J.kind=kk at *
 generalize J.text=tj at *
 cases bj with
 | false=>
  go_wp2_with fail
  go_region
  all_goals (go_wp2_with fail;go_ret2;exact ⟨by rw [HTX.out,HTI.out];rfl,F1.drewN _⟩)
 | true=>
  by_cases h4:kk=4
  ·subst h4
   go_wp2_with fail
   go_region
   all_goals (go_wp2_with fail;go_ret2;exact ⟨by rw [HTX.out,HTI.out];rfl,F1.drewN _⟩)
  ·go_wp2_with fail
   go_region
   all_goals (go_wp2_with fail;go_ret2;exact ⟨by rw [HTX.out,HTI.out];simp [h4],F1.drewN _⟩)
theorem dbytes_any (j:Jv) (v:Value) (key:Bs) (w:World) (hat:RAt (All w) w j v) (hok:JvOk j) (hl:(rText j key).length≤17592186044) :
  Calls Tryz.prog 46 #[v,.string ⟨key.toArray⟩] w fun e w'=>e=.returned (.tuple #[.string ⟨(rBy j key).toArray⟩,.bool (rByB j key)])∧Fr NoB w w':=by
 obtain ⟨v0,v1,v2,v3,v4,rfl,hone⟩:=hat.form
 have b0:=Blk.new w 31 #[v0,v1,v2,v3,v4]
 have f0:Fr NoB w (w.alloc (.cells #[v0,v1,v2,v3,v4] 31)):=(Fr.refl _ _).alloc _
 have HG:Hid (∀ u,Fr NoB w u→Calls Tryz.prog 45 #[.agg #[v0,v1,v2,v3,v4],.string ⟨key.toArray⟩] u fun e w'=>e=.returned (.tuple #[.string ⟨(rText j key).toArray⟩,.bool (rIs j key)])∧Fr NoB u w'):=Lib.hid (fun u f=>dtext_any j _ key u (hat.all f) hok)
 have HF:Hid (∀ u,Calls Tryz.prog 85 #[.string ⟨(rText j key).toArray⟩] u fun e w'=>e=.returned (.tuple #[.string ⟨((from64 (rText j key)).getD []).toArray⟩,.int .i64 (if (from64 (rText j key)).isSome then 0 else 11)])∧Fr NoB u w'):=Lib.hid (fun u=>dfrom64_any _ u hl)
 have HB:Hid (rBy j key=(from64 (rText j key)).getD []∧rByB j key=(rIs j key&&(from64 (rText j key)).isSome)):=Lib.hid ⟨rfl,rfl⟩
 generalize rBy j key=r1 at *
 generalize rByB j key=r2 at *
 generalize rText j key=tx at *
 generalize rIs j key=ti at *
 clear hat
 have HB1:Hid (r1=(from64 tx).getD []):=Lib.hid HB.out.1
 have HB2:Hid (r2=(ti&&(from64 tx).isSome)):=Lib.hid HB.out.2
 clear HB
 generalize (from64 tx).getD []=by1 at *
 generalize (from64 tx).isSome=by2 at *
 go_enter Tryz.func46,Tryz.ntmps46
 go_upto_region 1 with fail
 generalize w.alloc (.cells #[v0,v1,v2,v3,v4] 31)=W at *
 have HG1:=Lib.hid (HG.out W f0)
 clear HG
 cases ti with
 | false=>
  go_wp2_with (first|(refine ldJ rfl _ rfl w.heap.size rfl b0 rfl ?_)|(go_at_call 45;((with_reducible refine HG1.out.mono ?_);rintro e u1 ⟨rfl,f1⟩))|(go_at_call 85;((with_reducible refine (HF.out _).mono ?_);rintro e u2 ⟨rfl,f2⟩)))
  all_goals (go_ret2;exact ⟨by rw [HB1.out,HB2.out];rfl,(f0.trans f1).trans f2⟩)
 | true=>
  cases by2 with
  | false=>
   go_wp2_with (first|(refine ldJ rfl _ rfl w.heap.size rfl b0 rfl ?_)|(go_at_call 45;((with_reducible refine HG1.out.mono ?_);rintro e u1 ⟨rfl,f1⟩))|(go_at_call 85;((with_reducible refine (HF.out _).mono ?_);rintro e u2 ⟨rfl,f2⟩)))
   go_ret2
   exact ⟨by rw [HB1.out,HB2.out];rfl,(f0.trans f1).trans f2⟩
  | true=>
   go_wp2_with (first|(refine ldJ rfl _ rfl w.heap.size rfl b0 rfl ?_)|(go_at_call 45;((with_reducible refine HG1.out.mono ?_);rintro e u1 ⟨rfl,f1⟩))|(go_at_call 85;((with_reducible refine (HF.out _).mono ?_);rintro e u2 ⟨rfl,f2⟩)))
   go_ret2
   exact ⟨by rw [HB1.out,HB2.out];rfl,(f0.trans f1).trans f2⟩
end Go.Proofs.YtbifjamddbpcjaaGreatDoor
