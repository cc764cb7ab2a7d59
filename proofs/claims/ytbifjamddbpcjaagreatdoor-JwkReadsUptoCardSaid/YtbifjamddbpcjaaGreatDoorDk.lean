/- JSON, the document's side: twice, form, check, Check. -/
import Derived.Test.YtbifjamddbpcjaaGreatDoorUp
import Derived.Test.YtbifjamddbpcjaaGreatDoorRs
namespace Go.Proofs.YtbifjamddbpcjaaGreatDoor
set_option maxRecDepth 100000
set_option maxHeartbeats 25600000
open Go.RowKit
theorem InMem.inS {S:Nat→Prop} {w u:World} {a:Option Addr} {n c:Nat} {cs:List Value} (h:InMem S w (.slice a n c) n cs) (hS:∀ g,S g→g<w.heap.size) (f:Fr NoB w u) (hn:0<n):∃ g o,a=some ⟨g,o,none⟩∧∀ (i:Nat) x,cs[i]?=some x→u.cell? ⟨g,o+i,none⟩=some x:=by
 rcases h with ⟨h0,_⟩|⟨g,o,c',he,hg,hc⟩
 ·omega
 ·simp only [Value.slice.injEq,true_and] at he
  exact ⟨g,o,he.1,fun i x hx=>(f.cell (p:=⟨g,o+i,none⟩) (hS g hg) (fun e=>e)).trans (hc i x hx)⟩
theorem keyAt_get {ks:List Bs} {m:Nat} (h:m<ks.length):ks[m]=keyAt ks m:=by simp [keyAt,List.getD,h]
theorem nodup_step {ks:List Bs} {m:Nat} (h:m<ks.length) (hn:(ks.take m).Nodup) (hx:∀ x,x<m→keyAt ks x≠keyAt ks m):(ks.take (m+1)).Nodup:=by
 rw [(List.take_append_getElem h).symm,List.nodup_append]
 refine ⟨hn,by simp,fun a ha b hb => ?_⟩
 obtain ⟨i,hi,rfl⟩:=List.getElem_of_mem ha
 rw [List.mem_singleton] at hb
 subst hb
 rw [List.length_take] at hi
 have:=hx i (by omega)
 rw [← keyAt_get h,← keyAt_get (by omega)] at this
 simpa using this
theorem not_nodup {ks:List Bs} {m p:Nat} (h:m<ks.length) (hp:p<m) (he:keyAt ks m=keyAt ks p):¬ ks.Nodup:=by
 intro hn
 rw [← keyAt_get h,← keyAt_get (by omega)] at he
 have h2:=List.pairwise_iff_getElem.1 hn p m (by omega) h hp
 exact h2 he.symm
theorem rtwice_any (S:Nat→Prop) (ks:List Bs) (v:Value) (w:World) (hS:∀ g,S g→g<w.heap.size) (hks:InMem S w v ks.length (ks.map sV)) (hl:ks.length≤big) :
  Calls Tryz.prog 189 #[v] w fun e w'=>e=.returned (.bool (!decide ks.Nodup))∧Fr NoB w w':=by
 obtain ⟨ka,kc,rfl⟩:=hks.sl
 unfold big at hl
 have HK:=Lib.hid hks
 have HS:=Lib.hid hS
 clear hks hS
 go_enter Tryz.func189,Tryz.ntmps189
 go_wp2_with fail
 go_loopw [3] (fun v wr=>∃ m:Nat,m≤ks.length∧v=.int .i64 m∧Fr NoB w wr∧Hid (ks.take m).Nodup) (fun v _=>ks.length - (intOf v).toNat)
 case atStart=>exact ⟨0,Nat.zero_le _,rfl,Fr.refl _ _,Lib.hid (by simp)⟩
 case round=>
  obtain ⟨m,hm,rfl,hf,HN⟩:=hrel
  by_cases hlt:m<ks.length
  ·have i1:(0:Int)≤m:=by omega
   have i2:(m:Int)<ks.length:=by omega
   go_wp2_with fail
   go_loopw [4] (fun v wr2=>∃ p:Nat,p≤m∧v=.int .i64 p∧Fr NoB w wr2∧Hid (∀ x,x<p→keyAt ks x≠keyAt ks m)) (fun v _=>m - (intOf v).toNat)
   case atStart=>exact ⟨0,Nat.zero_le _,rfl,hf,Lib.hid (fun _ h=>absurd h (by omega))⟩
   case round=>
    obtain ⟨p,hp,rfl,h2,HP⟩:=hrel
    by_cases hpl:p<m
    ·have j1:(0:Int)≤p:=by omega
     have j2:(p:Int)<m:=by omega
     have j3:(p:Int)<ks.length:=by omega
     obtain ⟨gk,ok,rfl,hkc⟩:=HK.out.inS HS.out h2 (by omega)
     have em:=hkc m (sV ks[m]) (by simp [hlt])
     have ep:=hkc p (sV ks[p]) (by simp [show p<ks.length by omega])
     rw [keyAt_get hlt] at em
     rw [keyAt_get (by omega)] at ep
     clear hkc
     by_cases he:keyAt ks m=keyAt ks p
     ·have hd:(!decide ks.Nodup)=true:=by rw [decide_eq_false (not_nodup hlt hpl he)];rfl
      rw [he] at em
      have HD:=Lib.hid hd
      clear HN HP he hd
      generalize keyAt ks p=kp at *
      go_wp2_with fail
      go_quiet (fail)
      go_wp2_with fail
      go_ret
      exact ⟨by rw [HD.out];rfl,h2.drewN _⟩
     ·have hb:(keyAt ks m==keyAt ks p)=false:=by simpa using he
      have hb3:¬ ((⟨(keyAt ks m).toArray⟩:ByteArray)=⟨(keyAt ks p).toArray⟩):=by simpa [ba_inj] using he
      have HP2:Hid (∀ x,x<p+1→keyAt ks x≠keyAt ks m):=Lib.hid (fun x hx=>by
       rcases Nat.lt_or_ge x p with h|h
       ·exact HP.out x h
       ·have:x=p:=by omega
        subst this;exact fun e=>he e.symm)
      clear HP he
      generalize hkm:keyAt ks m=km at em hb hb3
      generalize keyAt ks p=kp at ep hb hb3
      go_wp2_with fail
      go_quiet (fail)
      go_wp2_with fail
      go_roundw
      case rel=>exact ⟨p+1,by omega,by simp,h2.drewN _,by rw [← hkm] at *;exact HP2⟩
      case measure=>simp [intOf];omega
    ·obtain rfl:p=m:=by omega
     go_wp2_with fail
     go_roundw
     case rel=>exact ⟨p+1,by omega,by simp,h2,Lib.hid (nodup_step hlt HN.out HP.out)⟩
     case measure=>simp [intOf];omega
  ·obtain rfl:m=ks.length:=by omega
   have hd:(!decide ks.Nodup)=false:=by have:=HN.out;rw [List.take_length] at this;rw [decide_eq_true this];rfl
   have HD:=Lib.hid hd
   clear hd
   go_wp2_with fail
   go_ret
   exact ⟨by rw [HD.out];rfl,hf⟩
theorem intIn_of {k i:Int} (h:¬ (i≠0∧k≠3)) (h3:k≠3):intIn k i=true:=by
 have:i=0:=Classical.byContradiction fun e=>h ⟨e,h3⟩
 simp [intIn,this]
theorem textIn_of {k:Int} {t:Bs} (h:¬ (t≠[]∧k≠4)) (h4:k≠4):textIn k t=true:=by
 have:t=[]:=Classical.byContradiction fun e=>h ⟨e,h4⟩
 simp [textIn,this]
theorem dform_int {k i:Int} {t:Bs} {n:Nat} {ks:List Bs} (h:i≠0∧k≠3):formP k i t n ks=false:=by simp [formP,intIn,h.1,h.2]
theorem dform_text {k i:Int} {t:Bs} {n:Nat} {ks:List Bs} (h:t≠[]∧k≠4):formP k i t n ks=false:=by simp [formP,textIn,h.1,h.2]
theorem form_utf {k i:Int} {t:Bs} {n:Nat} {ks:List Bs} (h:ks.all Lib.validD=false):formP k i t n ks=false:=by simp [formP,h]
theorem len_nil {ks:List Bs} (h:(ks.length:Int)=0):ks=[]:=List.eq_nil_of_length_eq_zero (by omega)
section
variable {i:Int} {t:Bs} {n:Nat} {ks:List Bs}
theorem form_word {k:Int} (hk:k=0∨k=1∨k=2) (hv:ks.all Lib.validD=true) (h1:¬ (i≠0∧k≠3)) (h2:¬ (t≠[]∧k≠4)):formP k i t n ks=(((n:Int)==0)&&((ks.length:Int)==0)):=by
 have e1:=intIn_of h1 (by omega)
 have e2:=textIn_of h2 (by omega)
 have e6:(k==6)=false:=by simp;omega
 have e5:(k==5)=false:=by simp;omega
 have e0:decide (0≤k)=true:=by simp;omega
 have e7:decide (k<7)=true:=by simp;omega
 unfold formP keysOk nestK
 rw [hv,e1,e2,e0,e7,e6,e5]
 by_cases hk0:(ks.length:Int)=0
 ·obtain rfl:=len_nil hk0
  rw [Bool.eq_iff_iff]
  simp
  intro _
  omega
 ·have hne:ks≠[]:=by rintro rfl;exact hk0 rfl
  have hb:((ks.length:Int)==0)=false:=beq_eq_false_iff_ne.2 hk0
  rw [hb]
  simp [hne]
theorem form_num (hv:ks.all Lib.validD=true) (h2:¬ (t≠[]∧(3:Int)≠4)):formP 3 i t n ks=(decide (i≤9007199254740991)&&decide (-9007199254740991≤i)&&((n:Int)==0)&&((ks.length:Int)==0)):=by
 have e2:=textIn_of h2 (by omega)
 have e1:intIn 3 i=(decide (i≤9007199254740991)&&decide (-9007199254740991≤i)):=by
  unfold intIn
  by_cases h:i=0
  ·subst h;rfl
  ·simp [h]
 unfold formP keysOk nestK
 rw [hv,e1,e2]
 by_cases hk0:(ks.length:Int)=0
 ·obtain rfl:=len_nil hk0
  rw [Bool.eq_iff_iff]
  simp
  constructor
  ·rintro ⟨a,b,c⟩;exact ⟨⟨b,c⟩,a⟩
  ·rintro ⟨⟨b,c⟩,a⟩;exact ⟨a,b,c⟩
 ·have hne:ks≠[]:=by rintro rfl;exact hk0 rfl
  have hb:((ks.length:Int)==0)=false:=beq_eq_false_iff_ne.2 hk0
  rw [hb]
  simp [hne]
theorem form_str (hv:ks.all Lib.validD=true) (h1:¬ (i≠0∧(4:Int)≠3)):formP 4 i t n ks=(Lib.validD t&&((n:Int)==0)&&((ks.length:Int)==0)):=by
 have e1:=intIn_of h1 (by omega)
 have e2:textIn 4 t=Lib.validD t:=by
  unfold textIn
  cases t with
  | nil=>rfl
  | cons a b=>simp
 unfold formP keysOk nestK
 rw [hv,e1,e2]
 by_cases hk0:(ks.length:Int)=0
 ·obtain rfl:=len_nil hk0
  rw [Bool.eq_iff_iff]
  simp
  constructor
  ·rintro ⟨a,b⟩;exact ⟨b,a⟩
  ·rintro ⟨b,a⟩;exact ⟨a,b⟩
 ·have hne:ks≠[]:=by rintro rfl;exact hk0 rfl
  have hb:((ks.length:Int)==0)=false:=beq_eq_false_iff_ne.2 hk0
  rw [hb]
  simp [hne]
theorem form_list (hv:ks.all Lib.validD=true) (h1:¬ (i≠0∧(5:Int)≠3)) (h2:¬ (t≠[]∧(5:Int)≠4)):formP 5 i t n ks=((ks.length:Int)==0):=by
 have e1:=intIn_of h1 (by omega)
 have e2:=textIn_of h2 (by omega)
 unfold formP keysOk nestK
 rw [hv,e1,e2]
 by_cases hk0:(ks.length:Int)=0
 ·obtain rfl:=len_nil hk0
  simp
 ·have hne:ks≠[]:=by rintro rfl;exact hk0 rfl
  have hb:((ks.length:Int)==0)=false:=beq_eq_false_iff_ne.2 hk0
  rw [hb]
  simp [hne]
theorem form_obj (hv:ks.all Lib.validD=true) (h1:¬ (i≠0∧(6:Int)≠3)) (h2:¬ (t≠[]∧(6:Int)≠4)):formP 6 i t n ks=(((ks.length:Int)==(n:Int))&&decide ks.Nodup):=by
 have e1:=intIn_of h1 (by omega)
 have e2:=textIn_of h2 (by omega)
 unfold formP keysOk nestK
 rw [hv,e1,e2]
 rw [Bool.eq_iff_iff]
 simp
theorem form_no {k:Int} (h:¬ (0≤k∧k<7)):formP k i t n ks=false:=by
 unfold formP
 by_cases h0:0≤k
 ·simp [show ¬ k<7 by omega]
 ·simp [h0]
end
theorem rform_any (S:Nat→Prop) (k i:Int) (t:Bs) (n:Nat) (ks:List Bs) (la ka:Option Addr) (lc kc:Nat) (w:World) (hS:∀ g,S g→g<w.heap.size) (_hn:n≤big)
  (hkm:InMem S w (.slice ka ks.length kc) ks.length (ks.map sV)) (hkl:ks.length≤big) (hsm:t.length≤4398046511104∧∀ s∈ks,s.length≤4398046511104) :
  Calls Tryz.prog 139 #[jV k i t (.slice la n lc) (.slice ka ks.length kc)] w fun e w'=>e=.returned (.bool (formP k i t n ks))∧Fr NoB w w':=by
 have hkb:=hkl
 unfold big at _hn hkl
 have f0:Fr NoB w (w.alloc (.cells #[.int .i64 k,.int .i64 i,.string ⟨t.toArray⟩,.slice la n lc,.slice ka ks.length kc] 31)):=(Fr.refl _ _).alloc _
 have g0:=Blk.new w 31 #[.int .i64 k,.int .i64 i,.string ⟨t.toArray⟩,.slice la n lc,.slice ka ks.length kc]
 generalize hW:w.alloc (.cells #[.int .i64 k,.int .i64 i,.string ⟨t.toArray⟩,.slice la n lc,.slice ka ks.length kc] 31)=W at f0 g0
 have HW:=Lib.hid hW
 have HB:Hid (∀ u,Fr NoB W u→u.cell? ⟨w.heap.size,0,none⟩=some (.int .i64 k)∧u.cell? ⟨w.heap.size,1,none⟩=some (.int .i64 i)∧u.cell? ⟨w.heap.size,2,none⟩=some (.string ⟨t.toArray⟩)∧u.cell? ⟨w.heap.size,3,none⟩=some (.slice la n lc)∧u.cell? ⟨w.heap.size,4,none⟩=some (.slice ka ks.length kc)):=Lib.hid (fun u f=>by
  have a:=f.blk g0 (fun e=>e)
  exact ⟨(a.cell 0).trans rfl,(a.cell 1).trans rfl,(a.cell 2).trans rfl,(a.cell 3).trans rfl,(a.cell 4).trans rfl⟩)
 have HK:=Lib.hid hkm
 have HS:=Lib.hid hS
 have HM:=Lib.hid hsm
 generalize hF:formP k i t n ks=F
 have HF:=Lib.hid hF
 clear hW hkm hS hsm hF g0
 go_enter Tryz.func139,Tryz.ntmps139
 go_wp2_with (rw [HW.out])
 go_loopw [3] (fun v wr=>∃ m:Nat,m≤ks.length∧v=.int .i64 m∧Fr NoB W wr∧Hid ((ks.take m).all Lib.validD=true)) (fun v _=>ks.length - (intOf v).toNat)
 case atStart=>exact ⟨0,Nat.zero_le _,rfl,Fr.refl _ _,Lib.hid rfl⟩
 case round=>
  obtain ⟨m,hm,rfl,hf,HV⟩:=hrel
  obtain ⟨c0,c1,c2,c3,c4⟩:=HB.out wr hf
  by_cases hlt:m<ks.length
  ·have i1:(0:Int)≤m:=by omega
   have i2:(m:Int)<ks.length:=by omega
   obtain ⟨gk,ok,rfl,hkc⟩:=HK.out.inS HS.out (f0.trans hf) (by omega)
   have em:=hkc m (sV ks[m]) (by simp [hlt])
   have hsl:=HM.out.2 ks[m] (List.getElem_mem hlt)
   have HTK:Hid (ks.take (m+1)=ks.take m++[ks[m]]):=Lib.hid (List.take_append_getElem hlt).symm
   have HIN:Hid (ks[m]∈ks):=Lib.hid (List.getElem_mem hlt)
   clear hkc
   generalize ks[m]=q at *
   have HU:=Lib.hid (fun u=>utf_any q u hsl)
   cases hv:Lib.validD q with
   | false=>
    rw [hv] at HU
    have hF:F=false:=by
     rw [← HF.out]
     apply form_utf
     cases ha:ks.all Lib.validD
     ·rfl
     ·have:=List.all_eq_true.1 ha q HIN.out;rw [hv] at this;cases this
    clear hv
    go_wp2_with (go_at_call 188;((with_reducible refine (HU.out _).mono ?_);rintro e w2 ⟨rfl,f2⟩))
    go_ret
    exact ⟨by rw [hF];rfl,(f0.trans hf).trans f2⟩
   | true=>
    rw [hv] at HU
    have HV2:Hid ((ks.take (m+1)).all Lib.validD=true):=Lib.hid (by rw [HTK.out,List.all_append,HV.out];simp [hv])
    clear hv
    go_wp2_with (go_at_call 188;((with_reducible refine (HU.out _).mono ?_);rintro e w2 ⟨rfl,f2⟩))
    go_roundw
    case rel=>exact ⟨m+1,by omega,by simp,hf.trans f2,HV2⟩
    case measure=>simp [intOf];omega
  ·obtain rfl:m=ks.length:=by omega
   have HA:Hid (ks.all Lib.validD=true):=Lib.hid (by have:=HV.out;rwa [List.take_length] at this)
   clear HV
   go_upto_region 6 with fail
   have HT:=Lib.hid HM.out.1
   go_cut [35] (fun v wx=>v=.bool (decide (i≠0∧k≠3) || decide (t≠[]∧k≠4))∧wr=wx)
   case first=>
    by_cases h1:i=0
    ·have b1:(i != 0)=false:=by simpa using h1
     cases t with
     | nil=>
      go_wp2_with fail
      go_meet
      exact ⟨by simp [h1],rfl⟩
     | cons t0 t1=>
      have hne:(t0::t1:Bs)≠[]:=by simp
      by_cases h2:k=4
      ·have b2:(k != 4)=false:=by simpa using h2
       go_wp2_with fail
       go_meet
       exact ⟨by simp [h1,h2],rfl⟩
      ·have b2:(k != 4)=true:=by simpa using h2
       go_wp2_with fail
       go_meet
       exact ⟨by simp [h1,h2],rfl⟩
    ·have b1:(i != 0)=true:=by simpa using h1
     by_cases h3:k=3
     ·have b3:(k != 3)=false:=by simpa using h3
      have h2:k≠4:=by omega
      have b2:(k != 4)=true:=by simpa using h2
      cases t with
      | nil=>
       go_wp2_with fail
       go_meet
       exact ⟨by simp [h3],rfl⟩
      | cons t0 t1=>
       go_wp2_with fail
       go_meet
       exact ⟨by simp [h3],rfl⟩
     ·have b3:(k != 3)=true:=by simpa using h3
      go_wp2_with fail
      go_meet
      exact ⟨by simp [h1,h3],rfl⟩
   case rest=>
    obtain ⟨rfl,rfl⟩:=hcut
    have ff:=f0.trans hf
    by_cases h1:i≠0∧k≠3
    ·have hF:F=false:=by rw [← HF.out,dform_int h1]
     have hb:(decide (i≠0∧k≠3) || decide (t≠[]∧k≠4))=true:=by simp [h1]
     rw [hb]
     clear h1 hb
     go_wp2_with fail
     go_ret
     exact ⟨by rw [hF];rfl,ff⟩
    ·by_cases h2:t≠[]∧k≠4
     ·have hF:F=false:=by rw [← HF.out,dform_text h2]
      have hb:(decide (i≠0∧k≠3) || decide (t≠[]∧k≠4))=true:=by simp [h2]
      rw [hb]
      clear h1 h2 hb
      go_wp2_with fail
      go_ret
      exact ⟨by rw [hF];rfl,ff⟩
     ·have hb:(decide (i≠0∧k≠3) || decide (t≠[]∧k≠4))=false:=by rw [decide_eq_false h1,decide_eq_false h2];rfl
      rw [hb]
      clear hb
      by_cases k0:k=0∨k=1∨k=2
      ·have HFF:=Lib.hid (HF.out.symm.trans (form_word (n:=n) k0 HA.out h1 h2))
       clear h1 h2 HF HA
       rcases k0 with rfl|rfl|rfl
       ·cases b1:((n:Int)==0) with
        | false=>
         go_wp2_with fail
         go_ret
         exact ⟨by rw [HFF.out,b1];simp,ff⟩
        | true=>
         cases b2:((ks.length:Int)==0) with
         | false=>
          go_wp2_with fail
          go_ret
          exact ⟨by rw [HFF.out,b1,b2];rfl,ff⟩
         | true=>
          go_wp2_with fail
          go_ret
          exact ⟨by rw [HFF.out,b1,b2];rfl,ff⟩
       ·cases b1:((n:Int)==0) with
        | false=>
         go_wp2_with fail
         go_ret
         exact ⟨by rw [HFF.out,b1];simp,ff⟩
        | true=>
         cases b2:((ks.length:Int)==0) with
         | false=>
          go_wp2_with fail
          go_ret
          exact ⟨by rw [HFF.out,b1,b2];rfl,ff⟩
         | true=>
          go_wp2_with fail
          go_ret
          exact ⟨by rw [HFF.out,b1,b2];rfl,ff⟩
       ·cases b1:((n:Int)==0) with
        | false=>
         go_wp2_with fail
         go_ret
         exact ⟨by rw [HFF.out,b1];simp,ff⟩
        | true=>
         cases b2:((ks.length:Int)==0) with
         | false=>
          go_wp2_with fail
          go_ret
          exact ⟨by rw [HFF.out,b1,b2];rfl,ff⟩
         | true=>
          go_wp2_with fail
          go_ret
          exact ⟨by rw [HFF.out,b1,b2];rfl,ff⟩
      ·by_cases k3:k=3
       ·subst k3
        have HFF:=Lib.hid (HF.out.symm.trans (form_num (n:=n) HA.out h2))
        clear h1 h2 HF HA k0
        by_cases a1:i≤9007199254740991
        ·by_cases a2 : -9007199254740991≤i
         ·cases b1:((n:Int)==0) with
          | false=>
           go_wp2_with fail
           go_ret
           exact ⟨by rw [HFF.out,decide_eq_true a1,decide_eq_true a2,b1];simp,ff⟩
          | true=>
           cases b2:((ks.length:Int)==0) with
           | false=>
            go_wp2_with fail
            go_ret
            exact ⟨by rw [HFF.out,decide_eq_true a1,decide_eq_true a2,b1,b2];rfl,ff⟩
           | true=>
            go_wp2_with fail
            go_ret
            exact ⟨by rw [HFF.out,decide_eq_true a1,decide_eq_true a2,b1,b2];rfl,ff⟩
         ·go_wp2_with fail
          go_ret
          exact ⟨by rw [HFF.out,decide_eq_true a1,decide_eq_false (show ¬ -9007199254740991≤i by omega)];rfl,ff⟩
        ·go_wp2_with fail
         go_ret
         exact ⟨by rw [HFF.out,decide_eq_false (show ¬ i≤9007199254740991 by omega)];rfl,ff⟩
       ·by_cases k4:k=4
        ·subst k4
         have HFF:=Lib.hid (HF.out.symm.trans (form_str (n:=n) HA.out h1))
         have HU:=Lib.hid (fun u=>utf_any t u HT.out)
         clear h1 h2 HF HA k0 k3
         cases hv:Lib.validD t with
         | false=>
          rw [hv] at HU HFF
          go_wp2_with (go_at_call 188;((with_reducible refine (HU.out _).mono ?_);rintro e w2 ⟨rfl,f2⟩;obtain ⟨c0,c1,c2,c3,c4⟩:=HB.out w2 (hf.trans f2)))
          go_ret
          exact ⟨by rw [HFF.out];rfl,ff.trans f2⟩
         | true=>
          rw [hv] at HU HFF
          cases b1:((n:Int)==0) with
          | false=>
           go_wp2_with (go_at_call 188;((with_reducible refine (HU.out _).mono ?_);rintro e w2 ⟨rfl,f2⟩;obtain ⟨c0,c1,c2,c3,c4⟩:=HB.out w2 (hf.trans f2)))
           go_ret
           exact ⟨by rw [HFF.out,b1];simp,ff.trans f2⟩
          | true=>
           cases b2:((ks.length:Int)==0) with
           | false=>
            go_wp2_with (go_at_call 188;((with_reducible refine (HU.out _).mono ?_);rintro e w2 ⟨rfl,f2⟩;obtain ⟨c0,c1,c2,c3,c4⟩:=HB.out w2 (hf.trans f2)))
            go_ret
            exact ⟨by rw [HFF.out,b1,b2];rfl,ff.trans f2⟩
           | true=>
            go_wp2_with (go_at_call 188;((with_reducible refine (HU.out _).mono ?_);rintro e w2 ⟨rfl,f2⟩;obtain ⟨c0,c1,c2,c3,c4⟩:=HB.out w2 (hf.trans f2)))
            go_ret
            exact ⟨by rw [HFF.out,b1,b2];rfl,ff.trans f2⟩
        ·by_cases k5:k=5
         ·subst k5
          have HFF:=Lib.hid (HF.out.symm.trans (form_list (n:=n) HA.out h1 h2))
          clear h1 h2 HF HA k0 k3 k4
          cases b2:((ks.length:Int)==0) with
          | false=>
           go_wp2_with fail
           go_ret
           exact ⟨by rw [HFF.out,b2];rfl,ff⟩
          | true=>
           go_wp2_with fail
           go_ret
           exact ⟨by rw [HFF.out,b2];rfl,ff⟩
         ·by_cases k6:k=6
          ·subst k6
           have HFF:=Lib.hid (HF.out.symm.trans (form_obj (n:=n) HA.out h1 h2))
           have HTW:=Lib.hid (rtwice_any S ks _ wr (fun g hg=>Nat.lt_of_lt_of_le (HS.out g hg) ff.size) (HK.out.fr (fun g hg=>ff.block g (HS.out g hg) (fun e=>e))) hkb)
           clear h1 h2 HF HA k0 k3 k4 k5
           cases b2:((ks.length:Int)==(n:Int)) with
           | false=>
            go_wp2_with fail
            go_ret
            exact ⟨by rw [HFF.out,b2];rfl,ff⟩
           | true=>
            go_wp2_with (go_at_call 189;((with_reducible refine HTW.out.mono ?_);rintro e w2 ⟨rfl,f2⟩))
            go_ret
            exact ⟨by rw [HFF.out,b2];simp,ff.trans f2⟩
          ·have HFF:=Lib.hid (HF.out.symm.trans (form_no (n:=n) (i:=i) (t:=t) (ks:=ks) (k:=k) (by omega)))
           have q0:(k==0)=false:=by simp;omega
           have q1:(k==1)=false:=by simp;omega
           have q2:(k==2)=false:=by simp;omega
           have q3:(k==3)=false:=by simp;omega
           have q4:(k==4)=false:=by simp;omega
           have q5:(k==5)=false:=by simp;omega
           have q6:(k==6)=false:=by simp;omega
           clear h1 h2 HF HA k0 k3 k4 k5 k6
           go_wp2_with fail
           go_ret
           exact ⟨by rw [HFF.out];rfl,ff⟩
mutual
def JSd:Jv→Prop
 | .mk _ _ t l ks=>t.length≤4398046511104∧l.length≤big∧ks.length≤big∧(∀ s∈ks,s.length≤4398046511104)∧JSds l
def JSds:List Jv→Prop
 | []=>True
 | j::r=>JSd j∧JSds r
end
theorem JSds.get:∀ (l:List Jv),JSds l→∀ x∈l,JSd x
 | [],_,x,hx=>by simp at hx
 | j::r,h,x,hx=>by
  simp only [JSds] at h
  rcases List.mem_cons.1 hx with rfl|hx
  ·exact h.1
  ·exact JSds.get r h.2 x hx
theorem checksD_drop (n:Nat) (l:List Jv) (m:Nat) (h:m<l.length):checksP n (l.drop m)=if checkP n l[m]=0 then checksP n (l.drop (m+1)) else checkP n l[m]:=by
 rw [List.drop_eq_getElem_cons h,checksP]
mutual
theorem JSd_of:∀ j:Jv,szJ j≤8388608→JSd j
 | .mk k i t l ks,h=>by
  have h1:=szL_len l
  have h2:=szK_len ks
  simp only [szJ] at h
  simp only [JSd]
  exact ⟨by omega,by unfold big;omega,by unfold big;omega,fun s hs=>by have:=szK_mem ks s hs;omega,JSds_of l (by omega)⟩
theorem JSds_of:∀ l:List Jv,szL l≤8388608→JSds l
 | [],_=>trivial
 | j::r,h=>by
  simp only [szL] at h
  exact ⟨JSd_of j (by omega),JSds_of r (by omega)⟩
end
def DK (n:Nat) (j:Jv):Prop:=∀ (S:Nat→Prop) (v:Value) (w:World),(∀ g,S g→g<w.heap.size)→RAt S w j v→JSd j→Calls Tryz.prog 84 #[v,.int .i64 n] w fun e w'=>e=.returned (.int .i64 (checkP n j:Int))∧Fr NoB w w'
theorem rcheck_mk (S:Nat→Prop) (n:Nat) (hn:n≤32) (k i:Int) (t:Bs) (l:List Jv) (ks:List Bs) (la ka:Option Addr) (lc kc:Nat) (w:World) (hS:∀ g,S g→g<w.heap.size)
  (hkm:InMem S w (.slice ka ks.length kc) ks.length (ks.map sV)) (cs:List Value) (hcs:RCells S w l cs) (hlm:InMem S w (.slice la l.length lc) l.length cs)
  (hsm:t.length≤4398046511104∧l.length≤big∧ks.length≤big∧(∀ s∈ks,s.length≤4398046511104)) (hsms:JSds l) (hIH:n+1≤32→∀ x∈l,DK (n+1) x) :
  Calls Tryz.prog 84 #[jV k i t (.slice la l.length lc) (.slice ka ks.length kc),.int .i64 n] w fun e w'=>e=.returned (.int .i64 (checkP n (.mk k i t l ks):Int))∧Fr NoB w w':=by
 have hlb:=hsm.2.1
 have hl:=hsm.2.1
 unfold big at hl
 have f0:Fr NoB w (w.alloc (.cells #[.int .i64 k,.int .i64 i,.string ⟨t.toArray⟩,.slice la l.length lc,.slice ka ks.length kc] 31)):=(Fr.refl _ _).alloc _
 have g0:=Blk.new w 31 #[.int .i64 k,.int .i64 i,.string ⟨t.toArray⟩,.slice la l.length lc,.slice ka ks.length kc]
 generalize hW:w.alloc (.cells #[.int .i64 k,.int .i64 i,.string ⟨t.toArray⟩,.slice la l.length lc,.slice ka ks.length kc] 31)=W at f0 g0
 have HW:=Lib.hid hW
 have HB:Hid (∀ u,Fr NoB W u→u.cell? ⟨w.heap.size,3,none⟩=some (.slice la l.length lc)):=Lib.hid (fun u f=>((f.blk g0 (fun e=>e)).cell 3).trans rfl)
 have c0:W.cell? ⟨w.heap.size,0,none⟩=some (.int .i64 k):=(g0.cell 0).trans rfl
 have HQ:Hid (checkP n (.mk k i t l ks)=if nestK k && !(decide ((n:Int)<32)) then 91 else if formP k i t l.length ks then checksP (n+1) l else 93):=Lib.hid (by rw [checkP])
 generalize checkP n (.mk k i t l ks)=q at HQ ⊢
 have HIH:=Lib.hid hIH
 have Hlv:=Lib.hid (And.intro hcs hlm)
 have HS:=Lib.hid hS
 have HSS:Hid (∀ x∈l,JSd x):=Lib.hid (JSds.get l hsms)
 have HF:Hid (∀ u,Fr NoB w u→Calls Tryz.prog 139 #[jV k i t (.slice la l.length lc) (.slice ka ks.length kc)] u fun e w'=>e=.returned (.bool (formP k i t l.length ks))∧Fr NoB u w'):=Lib.hid (fun u f=>rform_any S k i t l.length ks la ka lc kc u (fun g hg=>Nat.lt_of_lt_of_le (hS g hg) f.size) hlb (hkm.fr (fun g hg=>f.block g (hS g hg) (fun e=>e))) hsm.2.2.1 ⟨hsm.1,hsm.2.2.2⟩)
 clear hW hIH hcs hlm hS hsms hkm hsm
 go_enter Tryz.func84,Tryz.ntmps84
 go_upto_region 1 with (rw [HW.out])
 go_cut [18] (fun v wx=>v=.bool (nestK k && !(decide ((n:Int)<32)))∧W=wx)
 case first=>
  by_cases hn2:(n:Int)<32
  ·have hn3:¬ (32:Int)≤n:=by omega
   cases h5:(k==5)
   ·cases h6:(k==6)
    ·go_wp2_with fail
     go_meet
     exact ⟨by simp [nestK,h5,h6],rfl⟩
    ·go_wp2_with fail
     go_meet
     exact ⟨by simp [nestK,h5,h6,hn2],rfl⟩
   ·go_wp2_with fail
    go_meet
    exact ⟨by simp [nestK,h5,hn2],rfl⟩
  ·have hn3:(32:Int)≤n:=by omega
   cases h5:(k==5)
   ·cases h6:(k==6)
    ·go_wp2_with fail
     go_meet
     exact ⟨by simp [nestK,h5,h6],rfl⟩
    ·go_wp2_with fail
     go_meet
     exact ⟨by simp [nestK,h5,h6];omega,rfl⟩
   ·go_wp2_with fail
    go_meet
    exact ⟨by simp [nestK,h5];omega,rfl⟩
 case rest=>
  obtain ⟨rfl,rfl⟩:=hcut
  cases hA:(nestK k && !(decide ((n:Int)<32))) with
  | true=>
   have e:q=91:=by rw [HQ.out,hA];rfl
   clear hA
   go_wp2_with fail
   go_ret
   exact ⟨by rw [e];rfl,f0⟩
  | false=>
   have HA:=Lib.hid hA
   clear hA
   cases hfm:formP k i t l.length ks with
   | false=>
    have e:q=93:=by rw [HQ.out,HA.out,hfm];rfl
    rw [hfm] at HF
    clear hfm
    go_wp2_with (first|(refine ldJ rfl _ rfl w.heap.size rfl g0 rfl ?_)|(go_at_call 139;((with_reducible refine (HF.out _ f0).mono ?_);rintro e w2 ⟨rfl,f2⟩)))
    go_ret
    exact ⟨by rw [e];rfl,f0.trans f2⟩
   | true=>
    have HQL:Hid (q=checksP (n+1) l):=Lib.hid (by rw [HQ.out,HA.out,hfm];rfl)
    have HCK:Hid (∀ x∈l,DK (n+1) x):=Lib.hid (fun x hxm=>by
     refine HIH.out ?_ x hxm
     have e0:=HA.out
     have hne:¬ (l.length:Int)=0:=by intro h0;have:l=[]:=List.eq_nil_of_length_eq_zero (by omega);subst this;simp at hxm
     have hns:nestK k=true:=by
      have:=hfm
      unfold formP at this
      simp only [Bool.and_eq_true] at this
      have:=this.1.1.1.1.2
      rw [decide_eq_false hne,Bool.or_false] at this
      exact this
     rw [hns] at e0
     have:(n:Int)<32:=by simpa using e0
     omega)
    rw [hfm] at HF
    clear hfm HQ HIH
    go_wp2_with (first|(refine ldJ rfl _ rfl w.heap.size rfl g0 rfl ?_)|(go_at_call 139;((with_reducible refine (HF.out _ f0).mono ?_);rintro e w2 ⟨rfl,f2⟩)))
    go_loopw [5] (fun v wr=>∃ m:Nat,m≤l.length∧v=.int .i64 m∧Fr NoB W wr∧Hid (q=checksP (n+1) (l.drop m))) (fun v _=>l.length - (intOf v).toNat)
    case atStart=>exact ⟨0,Nat.zero_le _,rfl,f2,HQL⟩
    case round=>
     obtain ⟨m,hm,rfl,hf,HD⟩:=hrel
     have d3:=HB.out _ hf
     by_cases hlt:m<l.length
     ·have k1:(0:Int)≤m:=by omega
      have k2:(m:Int)<l.length:=by omega
      obtain ⟨hcs,hlm⟩:=Hlv.out
      obtain ⟨ga,oa,rfl,hcell⟩:=hlm.inS HS.out (f0.trans hf) (by omega)
      obtain ⟨v0,v1,v2,v3,v4,p0,p1,p2,p3,p4,hat⟩:=RCells.get l cs m hlt hcs
      have e0:wr.cell? ⟨ga,oa+m*5,none⟩=some v0:=hcell _ _ p0
      have e1:wr.cell? ⟨ga,oa+m*5+1,none⟩=some v1:=hcell _ _ p1
      have e2:wr.cell? ⟨ga,oa+m*5+2,none⟩=some v2:=hcell _ _ p2
      have e3:wr.cell? ⟨ga,oa+m*5+3,none⟩=some v3:=hcell _ _ p3
      have e4:wr.cell? ⟨ga,oa+m*5+4,none⟩=some v4:=hcell _ _ p4
      have HC:Hid (Calls Tryz.prog 84 #[.agg #[v0,v1,v2,v3,v4],.int .i64 ((n:Int)+1)] wr fun e w'=>e=.returned (.int .i64 (checkP (n+1) l[m]:Int))∧Fr NoB wr w'):=Lib.hid (by
       have:=HCK.out l[m] (List.getElem_mem hlt) S _ wr (fun g hg=>Nat.lt_of_lt_of_le (HS.out g hg) (f0.trans hf).size) (RAt.fr (fun g hg=>(f0.trans hf).block g (HS.out g hg) (fun e=>e)) _ _ hat) (HSS.out _ (List.getElem_mem hlt))
       simpa using this)
      have hdr:=checksD_drop (n+1) l m hlt
      rw [← HD.out] at hdr
      clear hcell p0 p1 p2 p3 p4 hat hcs hlm HD HQL
      generalize checkP (n+1) l[m]=z at hdr HC
      by_cases hz:z=0
      ·subst hz
       rw [if_pos rfl] at hdr
       have HDR:=Lib.hid hdr
       clear hdr
       go_wp2_with (go_at_call 84;((with_reducible refine HC.out.mono ?_);rintro e w2 ⟨rfl,f3⟩))
       go_roundw
       case rel=>exact ⟨m+1,by omega,by simp,hf.trans f3,HDR⟩
       case measure=>simp [intOf];omega
      ·rw [if_neg hz] at hdr
       have HDR:=Lib.hid hdr
       have hzb:((z:Int) != 0)=true:=by simp;omega
       clear hdr hz
       go_wp2_with (go_at_call 84;((with_reducible refine HC.out.mono ?_);rintro e w2 ⟨rfl,f3⟩))
       go_ret
       exact ⟨by rw [HDR.out];rfl,(f0.trans hf).trans f3⟩
     ·obtain rfl:m=l.length:=by omega
      have e:q=0:=by rw [HD.out,List.drop_length];simp [checksP]
      go_wp2_with fail
      go_ret
      exact ⟨by rw [e];rfl,f0.trans hf⟩
mutual
theorem DK_all:∀ (j:Jv) (n:Nat),n≤32→DK n j
 | .mk k i t l ks,n,hn=>by
  intro S v w hS hat hsm
  simp only [RAt] at hat
  obtain ⟨lv,kv,rfl,h2,h3,h4,h5,h6,cs,h7,h8⟩:=hat
  obtain ⟨la,lc,rfl⟩:=h8.sl
  obtain ⟨ka,kc,rfl⟩:=h5.1.sl
  simp only [JSd] at hsm
  exact rcheck_mk S n hn k i t l ks la ka lc kc w hS h5.1 cs h7 h8 ⟨hsm.1,hsm.2.1,hsm.2.2.1,hsm.2.2.2.1⟩ hsm.2.2.2.2 (fun hn'=>DKs_all l (n+1) hn')
theorem DKs_all:∀ (l:List Jv) (n:Nat),n≤32→∀ x∈l,DK n x
 | [],_,_,x,hx=>absurd hx (by simp)
 | j::r,n,hn,x,hx=>by
  cases hx with
  | head=>exact DK_all j n hn
  | tail _ h=>exact DKs_all r n hn x h
end
theorem rCheck_any (S:Nat→Prop) (j:Jv) (v:Value) (w:World) (hS:∀ g,S g→g<w.heap.size) (hat:RAt S w j v) (hsm:JSd j) :
  Calls Tryz.prog 44 #[v] w fun e w'=>e=.returned (.int .i64 (checkP 0 j:Int))∧Fr NoB w w':=by
 obtain ⟨v0,v1,v2,v3,v4,rfl,h1c⟩:∃ v0 v1 v2 v3 v4,v=.agg #[v0,v1,v2,v3,v4]∧∀ u∈[v0,v1,v2,v3,v4],u.oneCell'=true:=by
  cases j with
  | mk k i t l ks=>
   have h0:=hat
   simp only [RAt] at hat
   obtain ⟨lv,kv,rfl,_⟩:=hat
   exact ⟨_,_,_,_,_,rfl,h0.one⟩
 have f0:Fr NoB w (w.alloc (.cells #[v0,v1,v2,v3,v4] 31)):=(Fr.refl _ _).alloc _
 have g0:=Blk.new w 31 #[v0,v1,v2,v3,v4]
 have HC:Hid (Calls Tryz.prog 84 #[.agg #[v0,v1,v2,v3,v4],.int .i64 0] (w.alloc (.cells #[v0,v1,v2,v3,v4] 31)) fun e w'=>e=.returned (.int .i64 (checkP 0 j:Int))∧Fr NoB (w.alloc (.cells #[v0,v1,v2,v3,v4] 31)) w'):=Lib.hid (DK_all j 0 (by omega) S (.agg #[v0,v1,v2,v3,v4]) (w.alloc (.cells #[v0,v1,v2,v3,v4] 31)) (fun g hg=>Nat.lt_of_lt_of_le (hS g hg) f0.size) (RAt.fr (fun g hg=>f0.block g (hS g hg) (fun e=>e)) j _ hat) hsm)
 clear hS hat hsm h1c
 go_enter Tryz.func44,Tryz.ntmps44
 go_wp2_with (first|(refine ldJ rfl _ rfl w.heap.size rfl g0 rfl ?_)|(go_at_call 84;((with_reducible refine HC.out.mono ?_);rintro e w2 ⟨rfl,f3⟩)))
 go_ret
 exact ⟨rfl,f0.trans f3⟩
end Go.Proofs.YtbifjamddbpcjaaGreatDoor
