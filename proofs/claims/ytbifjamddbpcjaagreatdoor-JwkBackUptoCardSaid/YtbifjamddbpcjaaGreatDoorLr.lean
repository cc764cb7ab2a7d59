/- JSON: a value's form (plain). -/
import Derived.Test.YtbifjamddbpcjaaGreatDoorVd
import Derived.Test.YtbifjamddbpcjaaGreatDoorLq
import Derived.Test.YtbifjamddbpcjaaGreatDoorCa
import Derived.Lib.ItoaLen
namespace Go.Proofs.YtbifjamddbpcjaaGreatDoor
set_option maxRecDepth 100000
set_option maxHeartbeats 25600000
open Go.RowKit
def lim:Nat:=8796093022208
def LD (j:Jv):Prop:=∀ {B:Nat} (S:Nat→Prop) (v:Value) (w:World) (Bb b:Nat) (acc:Bs) (n:Nat),Cx B w→B≤Bb→Bb≤w.heap.size→(∀ g,S g→g<Bb)→RAt S w j v→checkP n j=0→Bd w Bb b acc→acc.length+(layP j).length≤lim →
 Calls Tryz.prog 59 #[.pointer (some ⟨b,0,none⟩),v] w fun e w'=>e=.returned (.tuple #[])∧Bd w' Bb b (acc++layP j)∧Wts b w w'
theorem Bd.cx {B:Nat} {w w':World} {Bb b:Nat} {l:Bs} (h:Bd w Bb b l) (hx:Cx B w) (t:Wts b w w') (hB:B≤Bb):Cx B w':=hx.fr t.fr (fun _ hk=>Nat.le_trans hB (h.bdS hk).2)
theorem Bd.low {w w':World} {Bb b k:Nat} {l:Bs} (h:Bd w Bb b l) (t:Wts b w w') (hB:Bb≤w.heap.size) (hk:k<Bb):w'.heap[k]?=w.heap[k]?:=t.fr.block k (by omega) (fun e=>by have:=(h.bdS e).2;omega)
theorem laid_leaf {B:Nat} (k i:Int) (t:Bs) (lv kv:Value) (w:World) (Bb b:Nat) (acc q:Bs) (hx:Cx B w) (hBw:Bb≤w.heap.size) (hi:IntOk i) (hbd:Bd w Bb b acc)
  (hq:(k=0∧q=wNull)∨(k=1∧q=wFalse)∨(k=2∧q=wTrue)∨(k=3∧q=Lib.itoa i)∨(k=4∧q=quoteP t)) (hl:acc.length+q.length≤lim) :
  Calls Tryz.prog 59 #[.pointer (some ⟨b,0,none⟩),jV k i t lv kv] w fun e w'=>e=.returned (.tuple #[])∧Bd w' Bb b (acc++q)∧Wts b w w':=by
 unfold lim at hl
 have f0:Fr NoB w (w.alloc (.cells #[.int .i64 k,.int .i64 i,.string ⟨t.toArray⟩,lv,kv] 31)):=(Fr.refl _ _).alloc _
 have g0:=Blk.new w 31 #[.int .i64 k,.int .i64 i,.string ⟨t.toArray⟩,lv,kv]
 have t0:Wts b w _:=(Wts.refl b w).noB f0 hbd.lt
 have bd0:=hbd.keep f0 (fun _ _ e=>e)
 have x0:=hx.fr0 f0
 have hB0:Bb≤(w.alloc (.cells #[.int .i64 k,.int .i64 i,.string ⟨t.toArray⟩,lv,kv] 31)).heap.size:=Nat.le_trans hBw f0.size
 have HQ2:Hid (∀ s:Bs,q=quoteP s→s.length+2≤q.length):=Lib.hid (fun s hs=>by
  rw [hs]
  have:∀ s:Bs,s.length≤(s.flatMap quoteC).length:=by
   intro s
   induction s with
   | nil=>simp
   | cons c r ih=>
    have h1:1≤(quoteC c).length:=by unfold quoteC;(repeat' split)<;>simp
    simp only [List.flatMap_cons,List.length_append,List.length_cons];omega
  have:=this s
  simp only [quoteP,List.length_cons,List.length_append,List.length_nil];omega)
 clear hbd
 generalize hW:w.alloc (.cells #[.int .i64 k,.int .i64 i,.string ⟨t.toArray⟩,lv,kv] 31)=W at *
 have HW:=Lib.hid hW
 have c0:W.cell? ⟨w.heap.size,0,none⟩=some (.int .i64 k):=(g0.cell 0).trans rfl
 have c1:W.cell? ⟨w.heap.size,1,none⟩=some (.int .i64 i):=(g0.cell 1).trans rfl
 have c2:W.cell? ⟨w.heap.size,2,none⟩=some (.string ⟨t.toArray⟩):=(g0.cell 2).trans rfl
 clear hW
 have hws:Hid (∀ u:World,Fr NoB W u→Calls Tryz.prog 62 #[.pointer (some ⟨b,0,none⟩),.string ⟨q.toArray⟩] u fun e w'=>e=.returned (.tuple #[.int .i64 q.length,.nilIface])∧Bd w' Bb b (acc++q)∧Wts b u w'):=Lib.hid (fun u f=>writeString_x Bb b acc q u (bd0.keep f (fun _ _ e=>e)) (by omega) (Nat.le_trans hB0 f.size))
 rcases hq with ⟨rfl,rfl⟩|⟨rfl,rfl⟩|⟨rfl,rfl⟩|⟨rfl,rfl⟩|⟨rfl,rfl⟩
 ·have HC:Hid (Calls Tryz.prog 62 #[.pointer (some ⟨b,0,none⟩),.string ⟨#[110,117,108,108]⟩] W fun e w'=>e=.returned (.tuple #[.int .i64 4,.nilIface])∧Bd w' Bb b (acc++wNull)∧Wts b W w'):=Lib.hid (hws.out W (Fr.refl _ _))
  go_enter Tryz.func59,Tryz.ntmps59
  go_wp2_with (go_at_call 62;(rw [HW.out];(with_reducible refine HC.out.mono ?_);rintro e w3 ⟨rfl,h3,t3⟩))
  go_end0
  exact ⟨rfl,h3,t0.trans t3⟩
 ·have HC:Hid (Calls Tryz.prog 62 #[.pointer (some ⟨b,0,none⟩),.string ⟨#[102,97,108,115,101]⟩] W fun e w'=>e=.returned (.tuple #[.int .i64 5,.nilIface])∧Bd w' Bb b (acc++wFalse)∧Wts b W w'):=Lib.hid (hws.out W (Fr.refl _ _))
  go_enter Tryz.func59,Tryz.ntmps59
  go_wp2_with (go_at_call 62;(rw [HW.out];(with_reducible refine HC.out.mono ?_);rintro e w3 ⟨rfl,h3,t3⟩))
  go_end0
  exact ⟨rfl,h3,t0.trans t3⟩
 ·have HC:Hid (Calls Tryz.prog 62 #[.pointer (some ⟨b,0,none⟩),.string ⟨#[116,114,117,101]⟩] W fun e w'=>e=.returned (.tuple #[.int .i64 4,.nilIface])∧Bd w' Bb b (acc++wTrue)∧Wts b W w'):=Lib.hid (hws.out W (Fr.refl _ _))
  go_enter Tryz.func59,Tryz.ntmps59
  go_wp2_with (go_at_call 62;(rw [HW.out];(with_reducible refine HC.out.mono ?_);rintro e w3 ⟨rfl,h3,t3⟩))
  go_end0
  exact ⟨rfl,h3,t0.trans t3⟩
 ·have HI:=Lib.hid (itoa_any i hi.1 hi.2 W x0)
  go_enter Tryz.func59,Tryz.ntmps59
  go_wp2_with (first|(go_at_call 100;(rw [HW.out];(with_reducible refine HI.out.mono ?_);rintro e w2 ⟨rfl,f2⟩))|(go_at_call 62;((with_reducible refine (hws.out _ f2).mono ?_);rintro e w3 ⟨rfl,h3,t3⟩)))
  go_end0
  exact ⟨rfl,h3,(t0.noB f2 bd0.lt).trans t3⟩
 ·have HC:=Lib.hid (quoted_any Bb b acc t W bd0 (by have:=HQ2.out t rfl;omega) hB0)
  go_enter Tryz.func59,Tryz.ntmps59
  go_wp2_with (go_at_call 101;(rw [HW.out];(with_reducible refine HC.out.mono ?_);rintro e w3 ⟨rfl,h3,t3⟩))
  go_end0
  exact ⟨rfl,h3,t0.trans t3⟩
theorem quoteP_len (s:Bs):s.length+2≤(quoteP s).length:=by
 have:∀ s:Bs,s.length≤(s.flatMap quoteC).length:=by
  intro s
  induction s with
  | nil=>simp
  | cons c r ih=>
   have h1:1≤(quoteC c).length:=by
    unfold quoteC;(repeat' split)<;>simp
   simp only [List.flatMap_cons,List.length_append,List.length_cons];omega
 have:=this s
 simp only [quoteP,List.length_cons,List.length_append,List.length_nil];omega
theorem laid_nest {B:Nat} (obj:Bool) (k:Int) (hk:k=if obj then 6 else 5) (S:Nat→Prop) (i:Int) (t:Bs) (l:List Jv) (ks:List Bs) (la:Option Addr) (lc:Nat) (ka:Option Addr) (kc:Nat) (w:World) (Bb b:Nat) (acc:Bs) (hx:Cx B w) (hBb:B≤Bb) (hBw:Bb≤w.heap.size) (hS:∀ g,S g→g<Bb)
  (hkv:InMem S w (.slice ka ks.length kc) ks.length (ks.map sV)) (cs:List Value) (hcs:RCells S w l cs) (hlm:InMem S w (.slice la l.length lc) l.length cs) (hkk:obj=true→ks.length=l.length∧ks.Nodup) (hbd:Bd w Bb b acc)
  (its:List Bs) (hits:its=itemsL obj ks (laysP l)) (hlen:acc.length+(joinC its).length+2≤lim) (hIH:∀ x∈l,LD x) (hfit:∀ x∈l,∃ n,checkP n x=0) :
  Calls Tryz.prog 59 #[.pointer (some ⟨b,0,none⟩),jV k i t (.slice la l.length lc) (.slice ka ks.length kc)] w fun e w'=>e=.returned (.tuple #[])∧Bd w' Bb b (acc++((if obj then 123 else 91)::(joinC its++[if obj then 125 else 93])))∧Wts b w w':=by
 have hil:its.length=l.length:=by rw [hits,itemsL_len,laysP_len]
 have hnl:=joinC_len its
 unfold lim at hlen
 have f0:Fr NoB w (w.alloc (.cells #[.int .i64 k,.int .i64 i,.string ⟨t.toArray⟩,.slice la l.length lc,.slice ka ks.length kc] 31)):=(Fr.refl _ _).alloc _
 have g0:=Blk.new w 31 #[.int .i64 k,.int .i64 i,.string ⟨t.toArray⟩,.slice la l.length lc,.slice ka ks.length kc]
 have t0:Wts b w _:=(Wts.refl b w).noB f0 hbd.lt
 have bd0:=hbd.keep f0 (fun _ _ e=>e)
 have far0:=hbd.far f0 (Nat.le_refl _)
 have hB0:Bb≤(w.alloc (.cells #[.int .i64 k,.int .i64 i,.string ⟨t.toArray⟩,.slice la l.length lc,.slice ka ks.length kc] 31)).heap.size:=Nat.le_trans hBw f0.size
 generalize hW:w.alloc (.cells #[.int .i64 k,.int .i64 i,.string ⟨t.toArray⟩,.slice la l.length lc,.slice ka ks.length kc] 31)=W at *
 have HW:=Lib.hid hW
 have c0:W.cell? ⟨w.heap.size,0,none⟩=some (.int .i64 k):=(g0.cell 0).trans rfl
 clear hW
 -- the opening bracket
 have HB:Hid (∀ x:Int,x=(if obj then 123 else 91)→Calls Tryz.prog 102 #[.pointer (some ⟨b,0,none⟩),.int .u8 x] W fun e w1=>e=.returned .nilIface∧Hid (Bd w1 Bb b (acc++[if obj then 123 else 91])∧Wts b W w1)∧Blk w1 w.heap.size 31 #[.int .i64 k,.int .i64 i,.string ⟨t.toArray⟩,.slice la l.length lc,.slice ka ks.length kc]):=Lib.hid (fun x hxx=>by
  subst hxx
  have h:=writeByte_x Bb b acc (if obj then 123 else 91) W bd0 (by omega) hB0
  have e1:((if obj then (123:UInt8) else 91).toNat:Int)=if obj then 123 else 91:=by cases obj<;>rfl
  rw [e1] at h
  exact h.mono (fun e w1 ⟨h1,h2,h3⟩=>⟨h1,Lib.hid ⟨h2,h3⟩,h3.fr.blk g0 far0⟩))
 have HO:Hid (∀ w1,Bd w1 Bb b (acc++[if obj then 123 else 91])∧Wts b W w1→Calls Tryz.prog 103 #[jV k i t (.slice la l.length lc) (.slice ka ks.length kc)] w1 fun e w'=>∃ g,e=.returned (.slice (some ⟨g,0,none⟩) l.length l.length)∧Hid (w1.heap.size≤g∧Blk w' g 3 ((orderP (k==6) ks l.length).map iV).toArray∧Fr NoB w1 w')):=Lib.hid (fun w1 ⟨h1,h2⟩=>by
  refine (order_any S k i t l.length ks la lc _ w1 (fun g hg => ?_) (hkv.fr (fun g hg => ?_)) (by unfold big;omega) (fun e=>hkk (by cases obj<;>simp_all))).mono (fun e w' ⟨g,h3,h4,h5,h6⟩=>⟨g,h3,Lib.hid ⟨h4,h5,h6⟩⟩)
  ·have:=hS g hg;have:=h2.fr.size;omega
  ·rw [bd0.low h2 hB0 (hS g hg)]
   exact f0.block g (by have:=hS g hg;omega) (fun e=>e))
 have key:Hid (∀ w1 g w2,Bd w1 Bb b (acc++[if obj then 123 else 91])∧Wts b W w1→w1.heap.size≤g∧Blk w2 g 3 ((orderP (k==6) ks l.length).map iV).toArray∧Fr NoB w1 w2 →
   Bd w2 Bb b (acc++[if obj then 123 else 91])∧Wts b w w2∧∀ u,Wts b w2 u→u.cell? ⟨w.heap.size,0,none⟩=some (.int .i64 k)∧u.cell? ⟨w.heap.size,3,none⟩=some (.slice la l.length lc)∧u.cell? ⟨w.heap.size,4,none⟩=some (.slice ka ks.length kc) ∧
    Blk u g 3 ((orderP obj ks l.length).map iV).toArray∧(∀ x,x<Bb→u.heap[x]?=w.heap[x]?)∧Cx B u∧Bb≤u.heap.size):=Lib.hid (fun w1 g w2 ⟨h1,h2⟩ ⟨h3,h4,h5⟩=>by
  have ek:(k==6)=obj:=by cases obj<;>simp [hk]
  rw [ek] at h4
  have nvb:¬ BdS b w1 w.heap.size:=h2.not g0.lt far0
  have nvb2:¬ BdS b w2 w.heap.size:=fun e=>nvb (e.same (h5.block b h1.lt (fun e=>e)))
  have ng:=h1.far h5 h3
  have b2:=h1.keep h5 (fun _ _ e=>e)
  have t2:Wts b w w2:=(t0.trans h2).noB h5 h1.lt
  refine ⟨b2,t2,fun u hu => ?_⟩
  have gu:=hu.fr.blk (h5.blk (h2.fr.blk g0 far0) (fun e=>e)) nvb2
  have hB2:Bb≤w2.heap.size:=Nat.le_trans hBw t2.fr.size
  refine ⟨(gu.cell 0).trans rfl,(gu.cell 3).trans rfl,(gu.cell 4).trans rfl,hu.fr.blk h4 ng,fun x hx => ?_,b2.cx (hbd.cx hx t2 hBb) hu hBb,Nat.le_trans hB2 hu.fr.size⟩
  rw [b2.low hu hB2 hx,hbd.low t2 hBw hx])
 have HBD0:=Lib.hid hbd
 clear hbd bd0 far0 f0 t0
 cases obj with
 | false=>
  simp only [Bool.false_eq_true,if_false] at *
  subst hk
  have HIT:Hid (∀ m (h:m<its.length),∃ p,p<l.length∧(orderP false ks l.length)[m]?=some p∧its[m]=memP false ks (laysP l) p):=Lib.hid (fun m h=>by
   have h2:m<(orderP false ks l.length).length:=by rw [orderP_len];omega
   refine ⟨(orderP false ks l.length)[m],orderP_lt (List.getElem_mem h2),List.getElem?_eq_getElem h2,?_⟩
   subst hits
   simp only [itemsL,List.getElem_map,laysP_len])
  have HKK:=Lib.hid hkk
  have HKV:=Lib.hid hkv
  have HLV:=Lib.hid (And.intro hcs hlm)
  have HIH:=Lib.hid hIH
  have HFIT:=Lib.hid hfit
  clear hits hkk hkv hcs hlm hIH hfit
  go_enter Tryz.func59,Tryz.ntmps59
  go_wp2_with (first|(go_at_call 102;(rw [HW.out];(refine (HB.out _ (by first|rfl|decide)).mono ?_);rintro e w1 ⟨rfl,H1,G1⟩))|(refine ldJ rfl _ rfl w.heap.size rfl G1 rfl ?_)|(go_at_call 103;((with_reducible refine (HO.out _ H1.out).mono ?_);rintro e w2 ⟨g,rfl,H2⟩)))
  have HKY:=Lib.hid (key.out w1 g w2 H1.out H2.out)
  clear key HO HB H1 H2 G1 g0 c0 HW
  go_loopw [19] (fun v wr=>∃ m:Nat,m≤l.length∧v=.int .i64 m∧Hid (Bd wr Bb b ((acc++[91])++joinC (its.take m)))∧Wts b w2 wr) (fun v _=>l.length - (intOf v).toNat)
  case atStart=>exact ⟨0,Nat.zero_le _,rfl,Lib.hid (by simpa [joinC] using HKY.out.1),Wts.refl _ _⟩
  case round=>
   obtain ⟨m,hm,rfl,HBd,ht⟩:=hrel
   by_cases hlt:m<l.length
   ·obtain ⟨p,hp,ho,hit⟩:=HIT.out m (by omega)
    obtain ⟨_,_,_,hrow,_,_,hBu⟩:=HKY.out.2.2 wr ht
    have hr:wr.cell? ⟨g,m,none⟩=some (.int .i64 p):=by rw [hrow.cell];simp [ho]
    have hjn:=joinC_take its m (by omega)
    have hle:=joinC_le its (m+1)
    rw [hjn,hit] at hle
    rw [hit] at hjn
    clear hrow ho hit
    simp only [List.length_append] at hle
    have HN:Hid (∀ q,q=(acc++[91])++joinC (its.take m)++((if 0<m then [44] else [])++memP false ks (laysP l) p)→q=(acc++[91])++joinC (its.take (m+1))):=Lib.hid (fun q hq=>by rw [hjn,hq,List.append_assoc (acc++[91])])
    have hA:((acc++[91])++joinC (its.take m)).length=acc.length+1+(joinC (its.take m)).length:=by simp only [List.length_append,List.length_cons,List.length_nil]
    generalize (acc++[91])++joinC (its.take m)=A at HBd HN hA
    clear hjn
    go_upto_if 25 with fail
    go_cut [] (fun wx=>Hid (Bd wx Bb b (A++(if 0<m then [44] else [])))∧Wts b wr wx)
    case first=>
     by_cases hm0:m=0
     ·subst hm0
      go_wp2_with fail
      go_meet
      exact ⟨Lib.hid (by simpa using HBd.out),Wts.refl _ _⟩
     ·have hm1:0<m:=by omega
      have hmi:(0:Int)<(m:Int):=by omega
      rw [if_pos hm1] at hle
      simp only [List.length_cons,List.length_nil] at hle
      have HC:Hid (Calls Tryz.prog 102 #[.pointer (some ⟨b,0,none⟩),.int .u8 44] wr fun e w'=>e=.returned .nilIface∧Bd w' Bb b (A++[44])∧Wts b wr w'):=Lib.hid (writeByte_x Bb b A 44 wr HBd.out (by omega) hBu)
      clear hle
      go_wp2_with (go_at_call 102;((with_reducible refine HC.out.mono ?_);rintro e w3 ⟨rfl,h3,t3⟩))
      go_meet
      exact ⟨Lib.hid (by rw [if_pos hm1];exact h3),t3⟩
    case rest=>
     obtain ⟨HB1,t1⟩:=hcut
     have ht1:=ht.trans t1
     have HN2:Hid (∀ q,q=A++(if 0<m then [44] else [])++memP false ks (laysP l) p→q=(acc++[91])++joinC (its.take (m+1))):=Lib.hid (fun q hq=>HN.out q (by rw [hq,List.append_assoc]))
     have hA1:(A++(if 0<m then [44] else [])).length=acc.length+1+(joinC (its.take m)).length+(if 0<m then [44] else []:Bs).length:=by simp only [List.length_append];omega
     generalize A++(if 0<m then [44] else [])=A1 at HB1 HN2 hA1
     clear HBd HN hA hr
     have hmem:memP false ks (laysP l) p=layP l[p]:=by rw [memP,laysP_get l p hp];rfl
     rw [hmem] at hle HN2
     have hx1:l[p]∈l:=List.getElem_mem hp
     obtain ⟨hcs,hlm⟩:=HLV.out
     rcases hlm with ⟨h0,_⟩|⟨gl,ol,cl,he,hgl,hcell⟩
     ·omega
     ·simp only [Value.slice.injEq,true_and] at he
      obtain ⟨rfl,rfl⟩:=he
      obtain ⟨v0,v1,v2,v3,v4,a0,a1,a2,a3,a4,hat⟩:=RCells.get l cs p hp hcs
      obtain ⟨nn,hnn⟩:=HFIT.out _ hx1
      have hLD:LD l[p]:=HIH.out _ hx1
      generalize l[p]=x at *
      have HKN:Hid (∀ u,Wts b w2 u→u.cell? ⟨w.heap.size,0,none⟩=some (.int .i64 5)∧u.cell? ⟨w.heap.size,3,none⟩=some (.slice (some ⟨gl,ol,none⟩) l.length lc)∧u.cell? ⟨w.heap.size,4,none⟩=some (.slice ka ks.length kc) ∧
        u.cell? ⟨gl,ol+p*5,none⟩=some v0∧u.cell? ⟨gl,ol+p*5+1,none⟩=some v1∧u.cell? ⟨gl,ol+p*5+2,none⟩=some v2∧u.cell? ⟨gl,ol+p*5+3,none⟩=some v3∧u.cell? ⟨gl,ol+p*5+4,none⟩=some v4∧Bb≤u.heap.size):=Lib.hid (fun u hu=>by
       obtain ⟨k0,k3,k4,_,klow,_,kB⟩:=HKY.out.2.2 u hu
       have cc:∀ (q:Nat) z,cs[q]?=some z→u.cell? ⟨gl,ol+q,none⟩=some z:=fun q z hz=>(World.cell?_of_block (w:=w) (a:=⟨gl,ol+q,none⟩) (klow gl (hS gl hgl))).trans (hcell q z hz)
       exact ⟨k0,k3,k4,cc _ _ a0,cc _ _ a1,cc _ _ a2,cc _ _ a3,cc _ _ a4,kB⟩)
      have HLD:Hid (∀ u A2,Wts b w2 u→Bd u Bb b A2→A2.length+(layP x).length≤lim→Calls Tryz.prog 59 #[.pointer (some ⟨b,0,none⟩),.agg #[v0,v1,v2,v3,v4]] u fun e w'=>e=.returned (.tuple #[])∧Bd w' Bb b (A2++layP x)∧Wts b u w'):=Lib.hid (fun u A2 hu hb hl2=>by
       obtain ⟨_,_,_,_,klow,kx,kB⟩:=HKY.out.2.2 u hu
       exact hLD S _ u Bb b A2 nn kx hBb kB hS (RAt.fr (fun g hg=>klow g (hS g hg)) x _ hat) hnn hb hl2)
      clear hLD hat hnn hcell a0 a1 a2 a3 a4 hcs
      obtain ⟨k0,k3,k4,d0,d1,d2,d3,d4,kB⟩:=HKN.out _ ht1
      have HC:=Lib.hid (HLD.out _ _ ht1 HB1.out (by unfold lim;omega))
      have HR:=Lib.hid (HN2.out _ rfl)
      clear hle hA1 HKN HLD HB1 HN2 hmem
      generalize layP x=X at *
      go_wp2_with (go_at_call 59;((with_reducible refine HC.out.mono ?_);rintro e w3 ⟨rfl,h3,t3⟩))
      go_roundw
      case rel=>exact ⟨m+1,by omega,by simp,Lib.hid (by rw [← HR.out];exact h3),ht1.trans t3⟩
      case measure=>simp [intOf];omega
   ·obtain rfl:m=l.length:=by omega
    have hBu:=(HKY.out.2.2 wr ht).2.2.2.2.2.2
    have etk:its.take l.length=its:=List.take_of_length_le (by omega)
    rw [etk] at HBd
    have HE:Hid (∀ x:Int,x=93→Calls Tryz.prog 102 #[.pointer (some ⟨b,0,none⟩),.int .u8 x] wr fun e w'=>e=.returned .nilIface∧Bd w' Bb b ((acc++[91])++joinC its++[93])∧Wts b wr w'):=Lib.hid (fun x hx=>by subst hx;exact writeByte_x Bb b _ 93 wr HBd.out (by simp only [List.length_append,List.length_cons,List.length_nil];omega) hBu)
    clear HBd
    go_wp2_with (go_at_call 102;((refine (HE.out _ (by first|rfl|decide)).mono ?_);rintro e w3 ⟨rfl,h3,t3⟩))
    go_end0
    exact ⟨rfl,by simpa using h3,(HKY.out.2.1.trans ht).trans t3⟩
 | true=>
  simp only [if_true] at *
  subst hk
  have HIT:Hid (∀ m (h:m<its.length),∃ p,p<l.length∧(orderP true ks l.length)[m]?=some p∧its[m]=memP true ks (laysP l) p):=Lib.hid (fun m h=>by
   have h2:m<(orderP true ks l.length).length:=by rw [orderP_len];omega
   refine ⟨(orderP true ks l.length)[m],orderP_lt (List.getElem_mem h2),List.getElem?_eq_getElem h2,?_⟩
   subst hits
   simp only [itemsL,List.getElem_map,laysP_len])
  have HKK:=Lib.hid hkk
  have HKV:=Lib.hid hkv
  have HLV:=Lib.hid (And.intro hcs hlm)
  have HIH:=Lib.hid hIH
  have HFIT:=Lib.hid hfit
  clear hits hkk hkv hcs hlm hIH hfit
  go_enter Tryz.func59,Tryz.ntmps59
  go_wp2_with (first|(go_at_call 102;(rw [HW.out];(refine (HB.out _ (by first|rfl|decide)).mono ?_);rintro e w1 ⟨rfl,H1,G1⟩))|(refine ldJ rfl _ rfl w.heap.size rfl G1 rfl ?_)|(go_at_call 103;((with_reducible refine (HO.out _ H1.out).mono ?_);rintro e w2 ⟨g,rfl,H2⟩)))
  have HKY:=Lib.hid (key.out w1 g w2 H1.out H2.out)
  clear key HO HB H1 H2 G1 g0 c0 HW
  go_loopw [19] (fun v wr=>∃ m:Nat,m≤l.length∧v=.int .i64 m∧Hid (Bd wr Bb b ((acc++[123])++joinC (its.take m)))∧Wts b w2 wr) (fun v _=>l.length - (intOf v).toNat)
  case atStart=>exact ⟨0,Nat.zero_le _,rfl,Lib.hid (by simpa [joinC] using HKY.out.1),Wts.refl _ _⟩
  case round=>
   obtain ⟨m,hm,rfl,HBd,ht⟩:=hrel
   by_cases hlt:m<l.length
   ·obtain ⟨p,hp,ho,hit⟩:=HIT.out m (by omega)
    obtain ⟨_,_,_,hrow,_,_,hBu⟩:=HKY.out.2.2 wr ht
    have hr:wr.cell? ⟨g,m,none⟩=some (.int .i64 p):=by rw [hrow.cell];simp [ho]
    have hjn:=joinC_take its m (by omega)
    have hle:=joinC_le its (m+1)
    rw [hjn,hit] at hle
    rw [hit] at hjn
    clear hrow ho hit
    simp only [List.length_append] at hle
    have HN:Hid (∀ q,q=(acc++[123])++joinC (its.take m)++((if 0<m then [44] else [])++memP true ks (laysP l) p)→q=(acc++[123])++joinC (its.take (m+1))):=Lib.hid (fun q hq=>by rw [hjn,hq,List.append_assoc (acc++[123])])
    have hA:((acc++[123])++joinC (its.take m)).length=acc.length+1+(joinC (its.take m)).length:=by simp only [List.length_append,List.length_cons,List.length_nil]
    generalize (acc++[123])++joinC (its.take m)=A at HBd HN hA
    clear hjn
    go_upto_if 25 with fail
    go_cut [] (fun wx=>Hid (Bd wx Bb b (A++(if 0<m then [44] else [])))∧Wts b wr wx)
    case first=>
     by_cases hm0:m=0
     ·subst hm0
      go_wp2_with fail
      go_meet
      exact ⟨Lib.hid (by simpa using HBd.out),Wts.refl _ _⟩
     ·have hm1:0<m:=by omega
      have hmi:(0:Int)<(m:Int):=by omega
      rw [if_pos hm1] at hle
      simp only [List.length_cons,List.length_nil] at hle
      have HC:Hid (Calls Tryz.prog 102 #[.pointer (some ⟨b,0,none⟩),.int .u8 44] wr fun e w'=>e=.returned .nilIface∧Bd w' Bb b (A++[44])∧Wts b wr w'):=Lib.hid (writeByte_x Bb b A 44 wr HBd.out (by omega) hBu)
      clear hle
      go_wp2_with (go_at_call 102;((with_reducible refine HC.out.mono ?_);rintro e w3 ⟨rfl,h3,t3⟩))
      go_meet
      exact ⟨Lib.hid (by rw [if_pos hm1];exact h3),t3⟩
    case rest=>
     obtain ⟨HB1,t1⟩:=hcut
     have ht1:=ht.trans t1
     have HN2:Hid (∀ q,q=A++(if 0<m then [44] else [])++memP true ks (laysP l) p→q=(acc++[123])++joinC (its.take (m+1))):=Lib.hid (fun q hq=>HN.out q (by rw [hq,List.append_assoc]))
     have hA1:(A++(if 0<m then [44] else [])).length=acc.length+1+(joinC (its.take m)).length+(if 0<m then [44] else []:Bs).length:=by simp only [List.length_append];omega
     generalize A++(if 0<m then [44] else [])=A1 at HB1 HN2 hA1
     clear HBd HN hA hr
     have hmem:memP true ks (laysP l) p=(quoteP (keyAt ks p)++[58])++layP l[p]:=by rw [memP,laysP_get l p hp];rfl
     rw [hmem] at hle HN2
     have hx1:l[p]∈l:=List.getElem_mem hp
     obtain ⟨hcs,hlm⟩:=HLV.out
     rcases hlm with ⟨h0,_⟩|⟨gl,ol,cl,he,hgl,hcell⟩
     ·omega
     ·simp only [Value.slice.injEq,true_and] at he
      obtain ⟨rfl,rfl⟩:=he
      obtain ⟨v0,v1,v2,v3,v4,a0,a1,a2,a3,a4,hat⟩:=RCells.get l cs p hp hcs
      obtain ⟨nn,hnn⟩:=HFIT.out _ hx1
      have hLD:LD l[p]:=HIH.out _ hx1
      generalize l[p]=x at *
      have HKN:Hid (∀ u,Wts b w2 u→u.cell? ⟨w.heap.size,0,none⟩=some (.int .i64 6)∧u.cell? ⟨w.heap.size,3,none⟩=some (.slice (some ⟨gl,ol,none⟩) l.length lc)∧u.cell? ⟨w.heap.size,4,none⟩=some (.slice ka ks.length kc) ∧
        u.cell? ⟨gl,ol+p*5,none⟩=some v0∧u.cell? ⟨gl,ol+p*5+1,none⟩=some v1∧u.cell? ⟨gl,ol+p*5+2,none⟩=some v2∧u.cell? ⟨gl,ol+p*5+3,none⟩=some v3∧u.cell? ⟨gl,ol+p*5+4,none⟩=some v4∧Bb≤u.heap.size):=Lib.hid (fun u hu=>by
       obtain ⟨k0,k3,k4,_,klow,_,kB⟩:=HKY.out.2.2 u hu
       have cc:∀ (q:Nat) z,cs[q]?=some z→u.cell? ⟨gl,ol+q,none⟩=some z:=fun q z hz=>(World.cell?_of_block (w:=w) (a:=⟨gl,ol+q,none⟩) (klow gl (hS gl hgl))).trans (hcell q z hz)
       exact ⟨k0,k3,k4,cc _ _ a0,cc _ _ a1,cc _ _ a2,cc _ _ a3,cc _ _ a4,kB⟩)
      have HLD:Hid (∀ u A2,Wts b w2 u→Bd u Bb b A2→A2.length+(layP x).length≤lim→Calls Tryz.prog 59 #[.pointer (some ⟨b,0,none⟩),.agg #[v0,v1,v2,v3,v4]] u fun e w'=>e=.returned (.tuple #[])∧Bd w' Bb b (A2++layP x)∧Wts b u w'):=Lib.hid (fun u A2 hu hb hl2=>by
       obtain ⟨_,_,_,_,klow,kx,kB⟩:=HKY.out.2.2 u hu
       exact hLD S _ u Bb b A2 nn kx hBb kB hS (RAt.fr (fun g hg=>klow g (hS g hg)) x _ hat) hnn hb hl2)
      clear hLD hat hnn hcell a0 a1 a2 a3 a4 hcs
      obtain ⟨k0,k3,k4,d0,d1,d2,d3,d4,kB⟩:=HKN.out _ ht1
      obtain ⟨hkl,_⟩:=HKK.out trivial
      rcases HKV.out with ⟨h0,_⟩|⟨gk,ok,ck,he,hgk,hck⟩
      ·omega
      ·simp only [Value.slice.injEq,true_and] at he
       obtain ⟨rfl,rfl⟩:=he
       have hkp:p<ks.length:=by omega
       clear hkl
       have eky:keyAt ks p=ks[p]:=by simp [keyAt,List.getD,hkp]
       have HKC:Hid (∀ u,Wts b w2 u→u.cell? ⟨gk,ok+p,none⟩=some (sV (keyAt ks p))):=Lib.hid (fun u hu=>by
        obtain ⟨_,_,_,_,klow,_,_⟩:=HKY.out.2.2 u hu
        exact (World.cell?_of_block (w:=w) (a:=⟨gk,ok+p,none⟩) (klow gk (hS gk hgk))).trans (hck p _ (by rw [eky,List.getElem?_map,List.getElem?_eq_getElem hkp];rfl)))
       have dk:=HKC.out _ ht1
       have hql:=quoteP_len (keyAt ks p)
       simp only [List.length_append,List.length_cons,List.length_nil] at hle
       have HQ:=Lib.hid (quoted_any Bb b A1 (keyAt ks p) _ HB1.out (by omega) kB)
       have HC58:Hid (∀ u,Bd u Bb b (A1++quoteP (keyAt ks p))→Bb≤u.heap.size→Calls Tryz.prog 102 #[.pointer (some ⟨b,0,none⟩),.int .u8 58] u fun e w'=>e=.returned .nilIface∧Bd w' Bb b (A1++quoteP (keyAt ks p)++[58])∧Wts b u w'):=Lib.hid (fun u hb hB=>writeByte_x Bb b _ 58 u hb (by simp only [List.length_append];omega) hB)
       have HLD2:Hid (∀ u,Wts b w2 u→Bd u Bb b (A1++quoteP (keyAt ks p)++[58])→Calls Tryz.prog 59 #[.pointer (some ⟨b,0,none⟩),.agg #[v0,v1,v2,v3,v4]] u fun e w'=>e=.returned (.tuple #[])∧Bd w' Bb b (A1++quoteP (keyAt ks p)++[58]++layP x)∧Wts b u w'):=Lib.hid (fun u hu hb=>HLD.out u _ hu hb (by unfold lim;simp only [List.length_append,List.length_cons,List.length_nil];omega))
       have HR:Hid (A1++quoteP (keyAt ks p)++[58]++layP x=(acc++[123])++joinC (its.take (m+1))):=Lib.hid (HN2.out _ (by simp only [List.append_assoc]))
       clear hle hA1 HLD HB1 HN2 hmem hql hck eky HKC
       generalize layP x=X at *
       generalize keyAt ks p=key1 at *
       go_wp2_with (first|(go_at_call 101;((with_reducible refine HQ.out.mono ?_);rintro e w3 ⟨rfl,h3,t3⟩;obtain ⟨k0,k3,k4,d0,d1,d2,d3,d4,kB⟩:=HKN.out _ (ht1.trans t3);have H3:=Lib.hid h3;clear h3))|(go_at_call 102;((with_reducible refine (HC58.out _ H3.out kB).mono ?_);rintro e w4 ⟨rfl,h4,t4⟩;obtain ⟨k0,k3,k4,d0,d1,d2,d3,d4,kB⟩:=HKN.out _ ((ht1.trans t3).trans t4);have H4:=Lib.hid h4;clear h4))|(go_at_call 59;((with_reducible refine (HLD2.out _ ((ht1.trans t3).trans t4) H4.out).mono ?_);rintro e w5 ⟨rfl,h5,t5⟩)))
       go_roundw
       case rel=>exact ⟨m+1,by omega,by simp,Lib.hid (by rw [← HR.out];exact h5),((ht1.trans t3).trans t4).trans t5⟩
       case measure=>simp [intOf];omega
   ·obtain rfl:m=l.length:=by omega
    have hBu:=(HKY.out.2.2 wr ht).2.2.2.2.2.2
    have etk:its.take l.length=its:=List.take_of_length_le (by omega)
    rw [etk] at HBd
    have HE:Hid (∀ x:Int,x=125→Calls Tryz.prog 102 #[.pointer (some ⟨b,0,none⟩),.int .u8 x] wr fun e w'=>e=.returned .nilIface∧Bd w' Bb b ((acc++[123])++joinC its++[125])∧Wts b wr w'):=Lib.hid (fun x hx=>by subst hx;exact writeByte_x Bb b _ 125 wr HBd.out (by simp only [List.length_append,List.length_cons,List.length_nil];omega) hBu)
    clear HBd
    go_wp2_with (go_at_call 102;((refine (HE.out _ (by first|rfl|decide)).mono ?_);rintro e w3 ⟨rfl,h3,t3⟩))
    go_end0
    exact ⟨rfl,by simpa using h3,(HKY.out.2.1.trans ht).trans t3⟩
mutual
theorem LD_all:∀ j:Jv,LD j
 | .mk k i t l ks=>by
  intro S v w Bb b acc n hx hBb hBw hS hat hck hbd hlen
  simp only [RAt] at hat
  obtain ⟨lv,kv,rfl,hk,hi,ht,hks,hl,cs,hcs,hlm⟩:=hat
  obtain ⟨hform,hchk⟩:=form_of n k i t l ks hck
  obtain ⟨h0,h7,h6⟩:=form_kind hform
  have hIH:=LDs_all l
  have hfit:∀ x∈l,∃ n,checkP n x=0:=fun x hx=>⟨n+1,checksP_all _ _ hchk x hx⟩
  obtain ⟨la,lc,rfl⟩:∃ a c,lv=.slice a l.length c:=by
   rcases hlm with ⟨h0,a,c,rfl⟩|⟨g,o,c,rfl,hg,hc⟩
   ·exact ⟨a,c,by rw [h0]⟩
   ·exact ⟨_,c,rfl⟩
  obtain ⟨ka,kc,rfl⟩:∃ a c,kv=.slice a ks.length c:=by
   rcases hks.1 with ⟨h0,a,c,rfl⟩|⟨g,o,c,rfl,hg,hc⟩
   ·exact ⟨a,c,by rw [h0]⟩
   ·exact ⟨_,c,rfl⟩
  have hkc:k=0∨k=1∨k=2∨k=3∨k=4∨k=5∨k=6:=by omega
  rcases hkc with rfl|rfl|rfl|rfl|rfl|rfl|rfl
  ·exact laid_leaf 0 i t _ _ w Bb b acc _ hx hBw hi hbd (Or.inl ⟨rfl,by rw [layP];rfl⟩) hlen
  ·exact laid_leaf 1 i t _ _ w Bb b acc _ hx hBw hi hbd (Or.inr (Or.inl ⟨rfl,by rw [layP];rfl⟩)) hlen
  ·exact laid_leaf 2 i t _ _ w Bb b acc _ hx hBw hi hbd (Or.inr (Or.inr (Or.inl ⟨rfl,by rw [layP];rfl⟩))) hlen
  ·exact laid_leaf 3 i t _ _ w Bb b acc _ hx hBw hi hbd (Or.inr (Or.inr (Or.inr (Or.inl ⟨rfl,by rw [layP];rfl⟩)))) hlen
  ·exact laid_leaf 4 i t _ _ w Bb b acc _ hx hBw hi hbd (Or.inr (Or.inr (Or.inr (Or.inr ⟨rfl,by rw [layP];rfl⟩)))) hlen
  ·have e:layP (.mk 5 i t l ks)=91::(joinC (itemsL false ks (laysP l))++[93]):=by rw [layP];rfl
   rw [e] at hlen ⊢
   exact laid_nest false 5 rfl S i t l ks la lc ka kc w Bb b acc hx hBb hBw hS hks.1 cs hcs hlm (fun h=>by cases h) hbd _ rfl (by simp only [List.length_cons,List.length_append,List.length_nil] at hlen;omega) hIH hfit
  ·have e:layP (.mk 6 i t l ks)=123::(joinC (itemsL true ks (laysP l))++[125]):=by rw [layP];rfl
   rw [e] at hlen ⊢
   exact laid_nest true 6 rfl S i t l ks la lc ka kc w Bb b acc hx hBb hBw hS hks.1 cs hcs hlm (fun _=>h6 rfl) hbd _ rfl (by simp only [List.length_cons,List.length_append,List.length_nil] at hlen;omega) hIH hfit
theorem LDs_all:∀ (l:List Jv),∀ x∈l,LD x
 | [],x,hx=>absurd hx (by simp)
 | j::r,x,hx=>by
  cases hx with
  | head=>exact LD_all j
  | tail _ h=>exact LDs_all r x h
end
theorem text_any {B:Nat} (S:Nat→Prop) (j:Jv) (v:Value) (w:World) (hx:Cx B w) (hS:∀ g,S g→g<w.heap.size) (hat:RAt S w j v) (hsm:JSm j) (hl:checkP 0 j=0→(layP j).length≤lim) :
  Calls Tryz.prog 29 #[v] w fun e w'=>e=.returned (.tuple #[sV (textT j).1,.int .i64 ((textT j).2:Int)])∧Fr NoB w w':=by
 obtain ⟨v0,v1,v2,v3,v4,rfl,h1c⟩:∃ v0 v1 v2 v3 v4,v=.agg #[v0,v1,v2,v3,v4]∧∀ u∈[v0,v1,v2,v3,v4],u.oneCell'=true:=by
  cases j with
  | mk k i t l ks=>
   have h0:=hat
   simp only [RAt] at hat
   obtain ⟨lv,kv,rfl,_⟩:=hat
   exact ⟨_,_,_,_,_,rfl,h0.one⟩
 have hone:=all_one h1c
 have f0:Fr NoB w (w.alloc (.cells #[v0,v1,v2,v3,v4] 31)):=(Fr.refl _ _).alloc _
 have g0:=Blk.new w 31 #[v0,v1,v2,v3,v4]
 generalize hW:w.alloc (.cells #[v0,v1,v2,v3,v4] 31)=W at f0 g0
 have HW:=Lib.hid hW
 clear hW
 have HC:=Lib.hid (check_any S j _ W (hx.fr0 f0) (fun g hg=>Nat.lt_of_lt_of_le (hS g hg) f0.size) (RAt.fr (fun g hg=>f0.block g (hS g hg) (fun e=>e)) j _ hat) hsm)
 by_cases hz:checkP 0 j=0
 ·have hlm:=hl hz
  rw [hz] at HC
  have et:textT j=if 65536<(layP j).length then ([],92) else (layP j,0):=by unfold textT;rw [if_pos hz]
  rw [et]
  -- the builder's world
  have HL:Hid (∀ w2,Fr NoB W w2→Calls Tryz.prog 59 #[.pointer (some ⟨w2.heap.size,0,none⟩),.agg #[v0,v1,v2,v3,v4]] (w2.alloc (.cells #[.pointer none,.slice none 0 0] 93)) fun e w'=>e=.returned (.tuple #[])∧Hid (Bd w' w2.heap.size w2.heap.size (layP j))∧Fr NoB w2 w'):=Lib.hid (fun w2 f2=>by
   have fa:Fr NoB w2 (w2.alloc (.cells #[.pointer none,.slice none 0 0] 93)):=(Fr.refl _ _).alloc _
   have f3:=(f0.trans f2).trans fa
   have hsz:w.heap.size≤w2.heap.size:=(f0.trans f2).size
   refine (LD_all j S _ _ w2.heap.size w2.heap.size [] 0 (hx.fr0 f3) (Nat.le_trans hx.le hsz) fa.size (fun g hg=>Nat.lt_of_lt_of_le (hS g hg) hsz) (RAt.fr (fun g hg=>f3.block g (hS g hg) (fun e=>e)) j _ hat) hz (Bd.new w2) (by simpa using hlm)).mono ?_
   rintro e w' ⟨rfl,hb,ht⟩
   exact ⟨rfl,Lib.hid (by simpa using hb),fa.andThen ht.fr (fun k hk e=>by have:=((Bd.new w2).bdS e).2;omega)⟩)
  generalize layP j=T at *
  clear hat hsm hl hz et
  by_cases hb:65536<T.length
  ·have hbi:(65536:Int)<(T.length:Int):=by omega
   rw [if_pos hb]
   go_enter Tryz.func29,Tryz.ntmps29
   go_wp2_with (first|(rw [HW.out];refine ldJ rfl _ rfl w.heap.size rfl g0 rfl ?_)|(go_at_call 41;((with_reducible refine HC.out.mono ?_);rintro e w2 ⟨rfl,f2⟩;have g2:=(f2.blk g0 (fun e=>e)).alloc (.cells #[.pointer none,.slice none 0 0] 93)))|(refine ldJ rfl _ rfl w.heap.size rfl g2 rfl ?_)|(go_at_call 59;((with_reducible refine (HL.out _ f2).mono ?_);rintro e w3 ⟨rfl,H3,f3⟩))|(go_at_call 60;((with_reducible refine (blen_any _ _ T _ H3.out).mono ?_);rintro e w4 ⟨rfl,rfl⟩)))
   go_ret2
   exact ⟨rfl,(f0.trans f2).trans f3⟩
  ·have hbi:¬ (65536:Int)<(T.length:Int):=by omega
   rw [if_neg hb]
   go_enter Tryz.func29,Tryz.ntmps29
   go_wp2_with (first|(rw [HW.out];refine ldJ rfl _ rfl w.heap.size rfl g0 rfl ?_)|(go_at_call 41;((with_reducible refine HC.out.mono ?_);rintro e w2 ⟨rfl,f2⟩;have g2:=(f2.blk g0 (fun e=>e)).alloc (.cells #[.pointer none,.slice none 0 0] 93)))|(refine ldJ rfl _ rfl w.heap.size rfl g2 rfl ?_)|(go_at_call 59;((with_reducible refine (HL.out _ f2).mono ?_);rintro e w3 ⟨rfl,H3,f3⟩))|(go_at_call 60;((with_reducible refine (blen_any _ _ T _ H3.out).mono ?_);rintro e w4 ⟨rfl,rfl⟩))|(go_at_call 61;((with_reducible refine (bstring_any _ _ T _ H3.out f3.size).mono ?_);rintro e w5 ⟨rfl,_,h5⟩)))
   go_ret2
   exact ⟨rfl,((f0.trans f2).trans f3).behind h5.1 (f0.trans f2).size⟩
 ·have et:textT j=([],checkP 0 j):=by unfold textT;rw [if_neg hz]
  rw [et]
  generalize checkP 0 j=q at *
  have hzi:¬ (q:Int)=0:=by omega
  go_enter Tryz.func29,Tryz.ntmps29
  go_wp2_with (first|(rw [HW.out];refine ldJ rfl _ rfl w.heap.size rfl g0 rfl ?_)|(go_at_call 41;((with_reducible refine HC.out.mono ?_);rintro e w2 ⟨rfl,f2⟩)))
  go_ret2
  exact ⟨rfl,f0.trans f2⟩
theorem sum_perm {l l':List Nat} (f:Nat→Nat) (h:l.Perm l'):(l.map f).sum=(l'.map f).sum:=by
 induction h with
 | nil=>rfl
 | cons x _ ih=>simp only [List.map_cons,List.sum_cons,ih]
 | swap x y l=>simp only [List.map_cons,List.sum_cons];omega
 | trans _ _ ih1 ih2=>rw [ih1,ih2]
theorem joinC_sum (its:List Bs):(joinC its).length≤(its.map (fun x=>x.length+1)).sum:=by
 cases its with
 | nil=>simp [joinC]
 | cons y r=>
  have:∀ r:List Bs,(r.flatMap (fun y=>44::y)).length≤(r.map (fun x=>x.length+1)).sum:=by
   intro r
   induction r with
   | nil=>simp
   | cons z q ih=>simp only [List.flatMap_cons,List.length_append,List.length_cons,List.map_cons,List.sum_cons];omega
  have:=this r
  simp only [joinC,List.length_append,List.map_cons,List.sum_cons];omega
theorem sum_keys:∀ (ks:List Bs) (n:Nat),((List.range n).map (fun p=>(keyAt ks p).length)).sum≤szK ks
 | [],n=>by
  have:∀ n,((List.range n).map (fun p=>(keyAt [] p).length)).sum=0:=by
   intro n
   induction n with
   | zero=>rfl
   | succ n ih=>rw [List.range_succ,List.map_append,List.sum_append,ih];simp [keyAt]
  rw [this];omega
 | s::r,0=>by simp
 | s::r,n+1=>by
  have ih:=sum_keys r n
  rw [List.range_succ_eq_map,List.map_cons,List.sum_cons,List.map_map]
  have e:((fun p=>(keyAt (s::r) p).length) ∘ Nat.succ)=fun p=>(keyAt r p).length:=by funext p;simp [keyAt]
  rw [e]
  simp only [keyAt,List.getD_cons_zero,szK] at ih ⊢
  omega
theorem sum_forms:∀ (fs:List Bs),((List.range fs.length).map (fun p=>(fs.getD p []).length)).sum=(fs.map List.length).sum
 | []=>by simp
 | s::r=>by
  have ih:=sum_forms r
  rw [List.length_cons,List.range_succ_eq_map,List.map_cons,List.sum_cons,List.map_map]
  have e:((fun p=>((s::r).getD p []).length) ∘ Nat.succ)=fun p=>(r.getD p []).length:=by funext p;simp
  rw [e,ih]
  simp
theorem sum_add (f g:Nat→Nat) (l:List Nat):(l.map (fun p=>f p+g p)).sum=(l.map f).sum+(l.map g).sum:=by
 induction l with
 | nil=>simp
 | cons a r ih=>simp only [List.map_cons,List.sum_cons,ih];omega
theorem sum_mul (c:Nat) (f:Nat→Nat) (l:List Nat):(l.map (fun p=>c*f p)).sum=c*(l.map f).sum:=by
 induction l with
 | nil=>simp
 | cons a r ih=>simp only [List.map_cons,List.sum_cons,ih,Nat.mul_add]
theorem sum_const (c:Nat) (l:List Nat):(l.map (fun _=>c)).sum=c*l.length:=by
 induction l with
 | nil=>simp
 | cons a r ih=>simp only [List.map_cons,List.sum_cons,ih,List.length_cons,Nat.mul_add];omega
theorem sum_le (f g:Nat→Nat) (h:∀ p,f p≤g p) (l:List Nat):(l.map f).sum≤(l.map g).sum:=by
 induction l with
 | nil=>simp
 | cons a r ih=>have:=h a;simp only [List.map_cons,List.sum_cons];omega
theorem quoteP_le (s:Bs):(quoteP s).length≤6*s.length+2:=by
 have:=flat_len s
 simp only [quoteP,List.length_cons,List.length_append,List.length_nil];omega
theorem items_len (obj:Bool) (ks fs:List Bs):(joinC (itemsL obj ks fs)).length≤6*szK ks+4*fs.length+(fs.map List.length).sum:=by
 refine Nat.le_trans (joinC_sum _) ?_
 unfold itemsL
 rw [List.map_map]
 have h1:=sum_perm (fun p=>(memP obj ks fs p).length+1) (orderP_perm obj ks fs.length)
 have e:((fun x:Bs=>x.length+1) ∘ memP obj ks fs)=fun p=>(memP obj ks fs p).length+1:=rfl
 rw [e,h1]
 refine Nat.le_trans (sum_le _ (fun p=>(6*(keyAt ks p).length+4)+(fs.getD p []).length) (fun p => ?_) _) ?_
 ·have:=quoteP_le (keyAt ks p)
  unfold memP
  cases obj
  ·simp;omega
  ·simp only [if_true,List.length_append,List.length_cons,List.length_nil];omega
 ·rw [sum_add,sum_forms,sum_add (fun p=>6*(keyAt ks p).length) (fun _=>4),sum_mul,sum_const,List.length_range]
  have:=sum_keys ks fs.length
  omega
theorem int_of_form {k i:Int} {t:Bs} {n:Nat} {ks:List Bs} (h:formP k i t n ks=true) : -9223372036854775808≤i∧i≤9223372036854775807:=by
 unfold formP at h
 simp only [Bool.and_eq_true] at h
 have h1:=h.1.2
 simp only [intIn,Bool.or_eq_true,Bool.and_eq_true,decide_eq_true_eq,beq_iff_eq] at h1
 omega
mutual
theorem layP_len:∀ (j:Jv) (n:Nat),checkP n j=0→(layP j).length+4≤30*szJ j
 | .mk k i t l ks,n,h=>by
  obtain ⟨hf,hc⟩:=form_of n k i t l ks h
  have hi:=int_of_form hf
  have h1:=Lib.itoa_length_le i hi.1 hi.2
  have h2:=quoteP_le t
  have h3:=laysP_sum l (n+1) hc
  rw [layP]
  simp only [szJ]
  split
  ·simp [wNull];omega
  ·split
   ·simp [wFalse];omega
   ·split
    ·simp [wTrue];omega
    ·split
     ·omega
     ·split
      ·omega
      ·have h4:=items_len (k==6) ks (laysP l)
       rw [laysP_len] at h4
       simp only [List.length_cons,List.length_append,List.length_nil]
       omega
theorem laysP_sum:∀ (l:List Jv) (n:Nat),checksP n l=0→4*l.length+((laysP l).map List.length).sum≤30*szL l
 | [],n,_=>by simp [laysP,szL]
 | j::r,n,h=>by
  have ha:=checksP_all n (j::r) h
  have hr:checksP n r=0:=by
   rw [checksP,if_pos (ha j (by simp))] at h
   exact h
  have h1:=layP_len j n (ha j (by simp))
  have h2:=laysP_sum r n hr
  simp only [laysP,szL,List.map_cons,List.sum_cons,List.length_cons]
  omega
end
theorem layP_lim (j:Jv) (h:szJ j≤8388608):checkP 0 j=0→(layP j).length≤lim:=fun hc=>by
 have:=layP_len j 0 hc
 unfold lim;omega
theorem text_at {B:Nat} (j:Jv) (v:Value) (w:World) (hx:Cx B w) (hat:RAt (All w) w j v) (hs:szJ j≤8388608) :
  Calls Tryz.prog 29 #[v] w fun e w'=>e=.returned (.tuple #[sV (textT j).1,.int .i64 ((textT j).2:Int)])∧Fr NoB w w':=
 text_any (All w) j v w hx (fun _ h=>h) hat (JSm_of j hs) (layP_lim j hs)
end Go.Proofs.YtbifjamddbpcjaaGreatDoor
