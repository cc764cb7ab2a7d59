/- The document's numbers (layer 5): modulo P; Read. -/
import Derived.Laws.OwnMore
import Derived.Test.YtbifjamddbpcjaaGreatDoorDb
import Derived.Test.YtbifjamddbpcjaaGreatDoorYd
namespace Go.Proofs.YtbifjamddbpcjaaGreatDoor
set_option maxRecDepth 100000
set_option maxHeartbeats 25600000
open Go.RowKit
abbrev pL:List Nat:=[65535,65535,65535,65535,65535,65535,0,0,0,0,0,0,1,0,65535,65535]
abbrev bL:List Nat:=[24651,10194,15422,15310,45302,52307,1712,25885,34492,30360,48469,46059,37863,43578,13784,23238]
theorem pL_val:val16 pL=pP:=by decide +kernel
theorem bL_val:val16 bL=curveB:=by decide +kernel
theorem pL_in:In16 pL:=fun x hx=>by simp [pL] at hx;omega
theorem bL_in:In16 bL:=fun x hx=>by simp [bL] at hx;omega
def NV5 (w:World) (v:Value) (n:Nat):Prop:=∃ l,Num .u32 w v l∧Top l∧val16 l=n
theorem NV5.fr {w u:World} {v:Value} {n:Nat} (h:NV5 w v n) (f:Fr NoB w u):NV5 u v n:=by
 obtain ⟨l,h1,h2,h3⟩:=h
 exact ⟨l,h1.fr f,h2,h3⟩
def NR5 (w:World) (n:Nat) (e:Ending) (w':World):Prop:=∃ v,e=.returned v∧NV5 w' v n∧Fr NoB w w'
theorem nr_of {w w':World} {n:Nat} {e:Ending} (h:NumIs w n e w'):NR5 w n e w':=by
 obtain ⟨v,l,rfl,h1,h2,h3,h4⟩:=h
 exact ⟨v,rfl,⟨l,h1,h2,h3⟩,h4⟩
theorem top_len {l:List Nat} {k:Nat} (ht:Top l) (h:val16 l<65536 ^ k):l.length≤k:=by
 refine Decidable.byContradiction fun hc => ?_
 obtain ⟨n,hn⟩:∃ n,l.length=n+1:=⟨l.length - 1,by omega⟩
 have h1:=ht.ge hn
 have h2:65536 ^ k≤65536 ^ n:=Nat.pow_le_pow_right (by decide) (by omega)
 omega
abbrev lot5:Nat:=65536 ^ 40
theorem p_lot:pP<lot5:=by decide +kernel
theorem mod_lot (n:Nat):n % pP<lot5:=Nat.lt_trans (Nat.mod_lt _ (by decide)) p_lot
theorem NV5.len {w:World} {v:Value} {n:Nat} (h:NV5 w v n) (hn:n<65536 ^ 90):∃ l,Num .u32 w v l∧Top l∧val16 l=n∧l.length≤90:=by
 obtain ⟨l,h1,h2,h3⟩:=h
 exact ⟨l,h1,h2,h3,top_len h2 (by rw [h3];exact hn)⟩
theorem pL_top:Top pL:=fun n hn=>by
 have:n=15:=by simpa using hn.symm
 subst this;decide
theorem bL_top:Top bL:=fun n hn=>by
 have:n=15:=by simpa using hn.symm
 subst this;decide
theorem d5mod_any (w:World):Calls Tryz.prog 123 #[.int .i64 0] w fun e w'=>∃ v,e=.returned v∧Num .u32 w' v pL∧Fr NoB w w':=by
 go_enter Tryz.func123,Tryz.ntmps123
 go_wp2_with fail
 go_ret
 exact ⟨_,rfl,Num.of_blk (l:=pL) (c:=16) (Blk.new w _ _) pL_in (by decide) (Nat.le_refl _),(Fr.refl _ _).alloc _⟩
theorem d5b_any (w:World):Calls Tryz.prog 127 #[] w (NR5 w curveB):=by
 go_enter Tryz.func127,Tryz.ntmps127
 go_wp2_with fail
 go_ret
 exact ⟨_,rfl,⟨bL,Num.of_blk (l:=bL) (c:=16) (Blk.new w _ _) bL_in (by decide) (Nat.le_refl _),bL_top,bL_val⟩,(Fr.refl _ _).alloc _⟩
theorem leftp {w:World} {v vm:Value} {n:Nat} (h:NV5 w v n) (hn:n<65536 ^ 90) (hm:Num .u32 w vm pL):Calls Tryz.prog 202 #[v,vm] w (NR5 w (n % pP)):=by
 obtain ⟨l,h1,h2,h3,h4⟩:=h.len hn
 have:=d5left_any l pL v vm w h1 hm (by omega) (by decide) (by rw [pL_val];decide)
 rw [h3,pL_val] at this
 exact this.mono (fun e w' h=>nr_of h)
theorem add5 {w:World} {va vb:Value} {x y:Nat} (ha:NV5 w va x) (hb:NV5 w vb y) (hx:x<lot5) (hy:y<lot5):Calls Tryz.prog 203 #[va,vb] w (NR5 w (x+y)):=by
 have hp:lot5≤65536 ^ 90:=Nat.pow_le_pow_right (by decide) (by decide)
 obtain ⟨l,h1,h2,h3,h4⟩:=ha.len (Nat.lt_of_lt_of_le hx hp)
 obtain ⟨m,g1,g2,g3,g4⟩:=hb.len (Nat.lt_of_lt_of_le hy hp)
 have:=d5add_any l m va vb w h1 g1 (by omega) (by omega)
 rw [h3,g3] at this
 exact this.mono (fun e w' h=>nr_of h)
theorem mul5 {w:World} {va vb:Value} {x y:Nat} (ha:NV5 w va x) (hb:NV5 w vb y) (hx:x<lot5) (hy:y<lot5):Calls Tryz.prog 205 #[va,vb] w (NR5 w (x*y)):=by
 have hp:lot5≤65536 ^ 90:=Nat.pow_le_pow_right (by decide) (by decide)
 obtain ⟨l,h1,h2,h3,h4⟩:=ha.len (Nat.lt_of_lt_of_le hx hp)
 obtain ⟨m,g1,g2,g3,g4⟩:=hb.len (Nat.lt_of_lt_of_le hy hp)
 have:=d5mul_any l m va vb w h1 g1 (by omega) (by omega)
 rw [h3,g3] at this
 exact this.mono (fun e w' h=>nr_of h)
theorem sub5 {w:World} {va vb:Value} {y:Nat} (ha:Num .u32 w va pL) (hb:NV5 w vb y) (hy:y≤pP):Calls Tryz.prog 204 #[va,vb] w (NR5 w (pP - y)):=by
 have hp:lot5≤65536 ^ 90:=Nat.pow_le_pow_right (by decide) (by decide)
 obtain ⟨m,g1,g2,g3,g4⟩:=hb.len (Nat.lt_of_le_of_lt hy (Nat.lt_of_lt_of_le p_lot hp))
 have:=d5sub_any pL m va vb w ha g1 (by decide) (by omega) (by rw [g3,pL_val];exact hy)
 rw [g3,pL_val] at this
 exact this.mono (fun e w' h=>nr_of h)
theorem cmp5 {w:World} {va vb:Value} {x y:Nat} (ha:NV5 w va x) (hb:NV5 w vb y):Calls Tryz.prog 122 #[va,vb] w fun e w'=>e=.returned (.int .i64 (cmpN x y))∧Fr NoB w w':=by
 obtain ⟨l,h1,h2,h3⟩:=ha
 obtain ⟨m,g1,g2,g3⟩:=hb
 have:=d5cmp_any l m va vb w h1 g1
 rw [h3,g3] at this
 exact this
theorem sum_lot {x y:Nat} (hx:x<lot5) (hy:y<lot5):x+y<65536 ^ 90:=by
 have:lot5+lot5≤65536 ^ 90:=by decide +kernel
 omega
theorem mul_lot {x y:Nat} (hx:x<lot5) (hy:y<lot5):x*y<65536 ^ 90:=by
 have h1:x*y≤lot5*lot5:=Nat.mul_le_mul (by omega) (by omega)
 have:lot5*lot5<65536 ^ 90:=by decide +kernel
 omega
theorem d5sum_any {w:World} {va vb:Value} {x y:Nat} (ha:NV5 w va x) (hb:NV5 w vb y) (hx:x<lot5) (hy:y<lot5):Calls Tryz.prog 170 #[.int .i64 0,va,vb] w (NR5 w ((x+y) % pP)):=by
 have HA:=Lib.hid (add5 ha hb hx hy)
 have HM:=Lib.hid d5mod_any
 have HL:Hid (∀ u v vm,NV5 u v (x+y)→Num .u32 u vm pL→Calls Tryz.prog 202 #[v,vm] u (NR5 u ((x+y) % pP))):=Lib.hid (fun u v vm h hm=>leftp h (sum_lot hx hy) hm)
 clear ha hb hx hy
 generalize x+y=z at *
 generalize z % pP=r at *
 go_enter Tryz.func170,Tryz.ntmps170
 go_wp2_with (first|(go_at_call 203;((with_reducible refine HA.out.mono ?_);rintro e w1 ⟨v1,rfl,n1,f1⟩))|(go_at_call 123;((with_reducible refine (HM.out _).mono ?_);rintro e w2 ⟨v2,rfl,n2,f2⟩))|(go_at_call 202;((with_reducible refine (HL.out _ _ _ (n1.fr f2) n2).mono ?_);rintro e w3 ⟨v3,rfl,n3,f3⟩)))
 go_ret
 exact ⟨_,rfl,n3,(f1.trans f2).trans f3⟩
theorem d5prod_any {w:World} {va vb:Value} {x y:Nat} (ha:NV5 w va x) (hb:NV5 w vb y) (hx:x<lot5) (hy:y<lot5):Calls Tryz.prog 172 #[.int .i64 0,va,vb] w (NR5 w (x*y % pP)):=by
 have HA:=Lib.hid (mul5 ha hb hx hy)
 have HM:=Lib.hid d5mod_any
 have HL:Hid (∀ u v vm,NV5 u v (x*y)→Num .u32 u vm pL→Calls Tryz.prog 202 #[v,vm] u (NR5 u (x*y % pP))):=Lib.hid (fun u v vm h hm=>leftp h (mul_lot hx hy) hm)
 clear ha hb hx hy
 generalize x*y=z at *
 generalize z % pP=r at *
 go_enter Tryz.func172,Tryz.ntmps172
 go_wp2_with (first|(go_at_call 205;((with_reducible refine HA.out.mono ?_);rintro e w1 ⟨v1,rfl,n1,f1⟩))|(go_at_call 123;((with_reducible refine (HM.out _).mono ?_);rintro e w2 ⟨v2,rfl,n2,f2⟩))|(go_at_call 202;((with_reducible refine (HL.out _ _ _ (n1.fr f2) n2).mono ?_);rintro e w3 ⟨v3,rfl,n3,f3⟩)))
 go_ret
 exact ⟨_,rfl,n3,(f1.trans f2).trans f3⟩
theorem d5opp_any {w:World} {va:Value} {x:Nat} (ha:NV5 w va x) (hx:x<lot5):Calls Tryz.prog 171 #[.int .i64 0,va] w (NR5 w ((pP - x % pP) % pP)):=by
 have hp:lot5≤65536 ^ 90:=Nat.pow_le_pow_right (by decide) (by decide)
 have HA:=Lib.hid ha
 have HM:=Lib.hid d5mod_any
 have HL1:Hid (∀ u v vm,NV5 u v x→Num .u32 u vm pL→Calls Tryz.prog 202 #[v,vm] u (NR5 u (x % pP))):=Lib.hid (fun u v vm h hm=>leftp h (Nat.lt_of_lt_of_le hx hp) hm)
 have HS:Hid (∀ u v vm,NV5 u v (x % pP)→Num .u32 u vm pL→Calls Tryz.prog 204 #[vm,v] u (NR5 u (pP - x % pP))):=Lib.hid (fun u v vm h hm=>sub5 hm h (Nat.le_of_lt (Nat.mod_lt _ (by decide))))
 have HL2:Hid (∀ u v vm,NV5 u v (pP - x % pP)→Num .u32 u vm pL→Calls Tryz.prog 202 #[v,vm] u (NR5 u ((pP - x % pP) % pP))):=Lib.hid (fun u v vm h hm=>leftp h (Nat.lt_of_le_of_lt (Nat.sub_le _ _) (Nat.lt_of_lt_of_le p_lot hp)) hm)
 clear ha hx hp
 generalize (pP - x % pP) % pP=r2 at *
 generalize pP - x % pP=r1 at *
 generalize x % pP=r0 at *
 go_enter Tryz.func171,Tryz.ntmps171
 go_wp2_with (first|(have tk:=f4;go_at_call 123;((with_reducible refine (HM.out _).mono ?_);rintro e w5 ⟨v5,rfl,n5,f5⟩))|(have tk:=f5;go_at_call 202;((with_reducible refine (HL2.out _ _ _ (n4.fr f5) n5).mono ?_);rintro e w6 ⟨v6,rfl,n6,f6⟩))|(have tk:=f1;go_at_call 123;((with_reducible refine (HM.out _).mono ?_);rintro e w2 ⟨v2,rfl,n2,f2⟩))|(go_at_call 123;((with_reducible refine (HM.out _).mono ?_);rintro e w1 ⟨v1,rfl,n1,f1⟩))|(go_at_call 202;((with_reducible refine (HL1.out _ _ _ ((HA.out.fr f1).fr f2) n2).mono ?_);rintro e w3 ⟨v3,rfl,n3,f3⟩))|(go_at_call 204;((with_reducible refine (HS.out _ _ _ n3 ((n1.fr f2).fr f3)).mono ?_);rintro e w4 ⟨v4,rfl,n4,f4⟩)))
 go_ret
 exact ⟨_,rfl,n6,((((f1.trans f2).trans f3).trans f4).trans f5).trans f6⟩
theorem d5times_any {w:World} {va vb:Value} {x y:Nat} (ha:NV5 w va x) (hb:NV5 w vb y) (hx:x<lot5) (hy:y<lot5):Calls Tryz.prog 126 #[va,vb] w (NR5 w (x*y % pP)):=by
 have HA:=Lib.hid (d5prod_any ha hb hx hy)
 clear ha hb hx hy
 generalize x*y % pP=z at *
 go_enter Tryz.func126,Tryz.ntmps126
 go_wp2_with (go_at_call 172;((with_reducible refine HA.out.mono ?_);rintro e w1 ⟨v1,rfl,n1,f1⟩))
 go_ret
 exact ⟨_,rfl,n1,f1⟩
theorem d5plus_any {w:World} {va vb:Value} {x y:Nat} (ha:NV5 w va x) (hb:NV5 w vb y) (hx:x<lot5) (hy:y<lot5):Calls Tryz.prog 124 #[va,vb] w (NR5 w ((x+y) % pP)):=by
 have HA:=Lib.hid (d5sum_any ha hb hx hy)
 clear ha hb hx hy
 generalize (x+y) % pP=z at *
 go_enter Tryz.func124,Tryz.ntmps124
 go_wp2_with (go_at_call 170;((with_reducible refine HA.out.mono ?_);rintro e w1 ⟨v1,rfl,n1,f1⟩))
 go_ret
 exact ⟨_,rfl,n1,f1⟩
theorem d5minus_any {w:World} {va vb:Value} {x y:Nat} (ha:NV5 w va x) (hb:NV5 w vb y) (hx:x<lot5) (hy:y<lot5):Calls Tryz.prog 125 #[va,vb] w (NR5 w ((x+(pP - y % pP) % pP) % pP)):=by
 have HA:=Lib.hid ha
 have HO:=Lib.hid (d5opp_any hb hy)
 have HS:Hid (∀ u v,NV5 u va x→NV5 u v ((pP - y % pP) % pP)→Calls Tryz.prog 170 #[.int .i64 0,va,v] u (NR5 u ((x+(pP - y % pP) % pP) % pP))):=Lib.hid (fun u v h1 h2=>d5sum_any h1 h2 hx (mod_lot _))
 clear ha hb hx hy
 generalize (x+(pP - y % pP) % pP) % pP=z at *
 generalize (pP - y % pP) % pP=t at *
 go_enter Tryz.func125,Tryz.ntmps125
 go_wp2_with (first|(go_at_call 171;((with_reducible refine HO.out.mono ?_);rintro e w1 ⟨v1,rfl,n1,f1⟩))|(go_at_call 170;((with_reducible refine (HS.out _ _ (HA.out.fr f1) n1).mono ?_);rintro e w2 ⟨v2,rfl,n2,f2⟩)))
 go_ret
 exact ⟨_,rfl,n2,f1.trans f2⟩
theorem or_u32d (a b:Nat) (ha:a<4294967296) (hb:b<4294967296):bits .or .u32 (a:Int) (b:Int)=((a ||| b:Nat):Int):=by
 have hx:a ||| b<2 ^ 32:=Nat.or_lt_two_pow (by omega) (by omega)
 have h1:(BitVec.ofInt 32 (a:Int)).toNat=a:=by
  rw [BitVec.ofInt_natCast,BitVec.toNat_ofNat];exact Nat.mod_eq_of_lt (by omega)
 have h2:(BitVec.ofInt 32 (b:Int)).toNat=b:=by
  rw [BitVec.ofInt_natCast,BitVec.toNat_ofNat];exact Nat.mod_eq_of_lt (by omega)
 show IntKind.u32.wrap ((BitVec.ofInt 32 (a:Int) ||| BitVec.ofInt 32 (b:Int)).toNat:Int)=_
 rw [BitVec.toNat_or,h1,h2,IntKind.wrap_u32]
 omega
theorem or_hi (a c:Nat) (ha:a<256) (hc:c<256):bits .or .u32 (a:Int) ((c:Int)*256)=((a+c*256:Nat):Int):=by
 have e:(c:Int)*256=((c*256:Nat):Int):=by simp
 rw [e,or_u32d a (c*256) (by omega) (by omega),Nat.or_comm,or_sum c a 8 (by omega)]
 omega
theorem or_none (c:Nat) (hc:c<256):bits .or .u32 0 (c:Int)=(c:Int):=by
 have:=or_u32d 0 c (by decide) (by omega)
 rw [Nat.zero_or] at this
 exact this
theorem UR.sto {lo:Nat} {w:World} {v:Value} {l:List Nat} (h:UR lo w v l) {q:Nat} (hq:q<l.length) :
  ∃ g c,v=.slice (some ⟨g,0,none⟩) l.length c∧lo≤g∧g<w.heap.size∧w.cell? ⟨g,q,none⟩=some (dV .u32 (l.getD q 0))∧w.frozen? ⟨g,q,none⟩=false∧∀ x:Nat,UR lo (w.setCell ⟨g,q,none⟩ (dV .u32 x)) (.slice (some ⟨g,0,none⟩) l.length c) (l.set q x):=by
 have h0:w.ownsRow lo 155 1 v l.length (l.map (dV .u32)):=h
 rcases h0.2 with ⟨_,e⟩|⟨g,cap,cur,rfl,hg,hh,hn,_⟩
 ·omega
 ·refine ⟨g,cap,rfl,hg,lt_of_block hh,?_,h0.frozenAt q,fun x => ?_⟩
  ·rw [h0.cellAt q (by omega),List.getElem?_map,List.getD_eq_getElem?_getD,List.getElem?_eq_getElem hq];rfl
  ·have:=(h0.stored q (dV .u32 x)).1
   rw [← List.map_set] at this
   unfold UR
   rw [List.length_set]
   exact this
theorem d5read_any (s:Bs) (w:World) (hl:s.length≤1000):Calls Tryz.prog 121 #[.string ⟨s.toArray⟩] w (NR5 w (natB s)):=by
 have hsz:(⟨s.toArray⟩:ByteArray).size=s.length:=rfl
 go_enter Tryz.func121,Tryz.ntmps121
 go_upto_region 2 with fail
 have ur0:=UR.new w
 have f0:Fr NoB w (w.alloc (.cells #[] 155)):=(Fr.refl _ _).alloc _
 generalize w.alloc (.cells #[] 155)=W at *
 go_wp2_with fail
 go_loopw [3,4] (fun v3 v4 wr=>∃ (i:Nat) (z:Int) (l:List Nat),i≤s.length∧v4=.int .i64 z∧Hid (z=(s.length:Int) - 1 - i)∧In16 l∧Hid (l.length=(i+1) / 2)∧Hid (val16 l=natB (s.drop (s.length - i)))∧UR w.heap.size wr v3 l∧Fr NoB w wr) (fun _ v4 _=>(intOf v4+1).toNat)
 case atStart=>exact ⟨0,_,[],Nat.zero_le _,rfl,Lib.hid (by simp),(fun x hx=>by simp at hx),Lib.hid rfl,Lib.hid (by simp [natB,val16]),ur0,f0⟩
 case round=>
  clear ur0 f0
  obtain ⟨i,z,l,hi,rfl,HZ,hin,HL,HV,hu,hf⟩:=hrel
  have hz:=HZ.out
  by_cases hlt:i<s.length
  ·obtain ⟨p,hp⟩:∃ p,p=s.length - 1 - i:=⟨_,rfl⟩
   obtain ⟨q,hq⟩:∃ q,q=i / 2:=⟨_,rfl⟩
   obtain rfl:z=(p:Int):=by omega
   have hpl:p<s.length:=by omega
   have hg:=get_list s p hpl
   have hgd:s.getD p 0=s[p]:=by rw [List.getD_eq_getElem?_getD,List.getElem?_eq_getElem hpl];rfl
   have s1:(s.length:Int) - 1 - (p:Int)=(i:Int):=by omega
   have k3:(0:Int)≤p:=by omega
   have k4:(p:Int)<s.length:=by omega
   have e1:(i:Int).tdiv 2=(q:Int):=by rw [Int.tdiv_eq_ediv_of_nonneg (by omega)];omega
   have e3:(i:Int) / 2=(q:Int):=by omega
   have k5:(0:Int)≤q:=by omega
   have hws:=hf.size
   have HP:Hid (p=s.length - 1 - i):=Lib.hid hp
   rcases Nat.mod_two_eq_zero_or_one i with hm|hm
   ·have e2:(i:Int).tmod 2=0:=by rw [Int.tmod_eq_emod_of_nonneg (by omega)];omega
    have e4:(i:Int) % 2=0:=by omega
    have hll:l.length=q:=by rw [HL.out];omega
    have HST:=Lib.hid (of_step (l:=l++[0]) hlt (hin.snoc (by decide)) (by simp;omega) (by rw [val16_snoc,HV.out];omega))
    rw [← hq,← hp,hgd] at HST
    have hpl2:plc (s[p]).toNat i=(s[p]).toNat:=by unfold plc;rw [if_neg (by omega)]
    have hx0:(l++[0]).getD q 0=0:=by rw [List.getD_eq_getElem?_getD,← hll];simp
    rw [hpl2,hx0,Nat.zero_add] at HST
    have HQ:Hid (q<(l++[0]).length):=Lib.hid (by simp;omega)
    have HL2:Hid ((l++[0]).length=(i+1+1) / 2):=Lib.hid (by simp;omega)
    have HI:=Lib.hid (fun x hx=>(hin.snoc (x:=0) (by decide)).set q x hx)
    have k6:(q:Int)<(l.length:Int)+1:=by omega
    have HX0:=Lib.hid hx0
    have hln:l.length≤1000:=by omega
    clear hgd hpl2 hz hq hp hin HL HV HZ hx0 hll
    generalize s[p]=c at *
    have hcl:=c.toNat_lt
    have eo:=or_none c.toNat hcl
    have fA:Fr NoB wr (wr.alloc (.cells #[.int .u32 0] 155)):=(Fr.refl _ _).alloc _
    have hA:=hu.fr fA
    go_upto_region 8 with (at_builtin;go_loud (refine ur_one rfl _ _ rfl w.heap.size u3 l rfl hA wr.heap.size 0 rfl (one_u32 wr 0) (by omega) (by simp<;>omega) ?_;intro v4 w4 hown4 hgr))
    obtain ⟨g,cc,rfl,hg1,hg2,d0,dz,HS⟩:=hown4.sto HQ.out
    have hf4:=hA.grown (hf.trans fA) hgr (Nat.le_refl _)
    have d0':w4.cell? ⟨g,q,none⟩=some (.int .u32 0):=by rw [d0,HX0.out];rfl
    have HS2:=Lib.hid (HS c.toNat)
    have HF2:=Lib.hid (hf4.setCell_new (p:=⟨g,q,none⟩) hg1 (dV .u32 c.toNat))
    have k7:((l++[0]).length:Int)=(l.length:Int)+1:=by simp
    clear HS hown4 hgr hA fA hu hf hf4 d0
    go_wp2_with fail
    go_region
    all_goals
     go_wp2_with fail
     go_roundw
     case rel=>exact ⟨i+1,_,_,by omega,rfl,Lib.hid (by have:=HP.out;omega),HI.out _ HST.out.2,Lib.hid (by rw [List.length_set];exact HL2.out),Lib.hid HST.out.1,World.ownsRow.drew HS2.out,HF2.out.drew⟩
     case measure=>(simp [intOf]<;>omega)
   ·have e2:(i:Int).tmod 2=1:=by rw [Int.tmod_eq_emod_of_nonneg (by omega)];omega
    have e4:(i:Int) % 2=1:=by omega
    have hql:q<l.length:=by rw [HL.out];omega
    have hfree:l.getD q 0<256:=by
     have:=(plc_free (l:=l) (i:=i) (by rw [HV.out];exact natB_back_lt (by omega))).1 hm
     rwa [← hq] at this
    have HST:=Lib.hid (of_step (l:=l) hlt hin (by rw [← hq];exact hql) HV.out)
    rw [← hq,← hp,hgd] at HST
    have hpl2:plc (s[p]).toNat i=(s[p]).toNat*256:=by unfold plc;rw [if_pos hm]
    rw [hpl2] at HST
    obtain ⟨g,cc,rfl,hg1,hg2,d0,dz,HS⟩:=hu.sto hql
    have HI:=Lib.hid (fun x hx=>hin.set q x hx)
    have HL2:Hid (∀ x:Nat,(l.set q x).length=(i+1+1) / 2):=Lib.hid (fun x=>by rw [List.length_set,HL.out];omega)
    have k6:(q:Int)<l.length:=by omega
    clear hgd hpl2 hz hq hp hin HL HV HZ hql hu
    generalize s[p]=c at *
    generalize l.getD q 0=x0 at *
    have hcl:=c.toNat_lt
    have eo:=or_hi x0 c.toNat hfree hcl
    have HS2:=Lib.hid (HS (x0+c.toNat*256))
    have HF2:=Lib.hid (hf.setCell_new (p:=⟨g,q,none⟩) hg1 (dV .u32 (x0+c.toNat*256)))
    clear HS hf
    generalize x0+c.toNat*256=x1 at *
    go_wp2_with fail
    go_region
    all_goals
     go_wp2_with fail
     go_roundw
     case rel=>exact ⟨i+1,_,_,by omega,rfl,Lib.hid (by have:=HP.out;omega),HI.out _ HST.out.2,Lib.hid (HL2.out _),Lib.hid HST.out.1,World.ownsRow.drew HS2.out,HF2.out.drew⟩
     case measure=>(simp [intOf]<;>omega)
  ·obtain rfl:i=s.length:=by omega
   have hll:l.length≤1000:=by rw [HL.out];omega
   have HR:=Lib.hid (d5trim_any l u3 wr (hu.num hin (by omega)))
   have HVV:Hid (val16 l=natB s):=Lib.hid (by have:=HV.out;simpa using this)
   have k9:z<0:=by omega
   clear hll
   go_wp2_with (go_at_call 169;((with_reducible refine HR.out.mono ?_);rintro e w1 ⟨v1,rfl,h1,rfl⟩))
   go_ret
   exact ⟨_,rfl,⟨_,h1,trim_top l,by rw [val16_trim];exact HVV.out⟩,hf⟩
abbrev z3:Array Value := #[.bool false,.slice none 0 0,.slice none 0 0]
theorem size_pt:(Tryz.prog.info? 120).map (·.size)=some 3:=by kernel_rfl
theorem pt_back {fn:Func} (h:fn.results = #[.cell 2 120,.tmp 3]) (tmps:Array Value) (w:World) (g:Nat) (v0 v1 v2 v:Value) (hp:tmps.getD 2 undef=.pointer (some ⟨g,0,none⟩)) (hv:tmps.getD 3 undef=v) (hb:Blk w g 120 #[v0,v1,v2]) :
  (results fn tmps).run Tryz.prog w=.ok (.tuple #[.agg #[v0,v1,v2],v]) w:=by
 have hp':tmps[2]?.getD undef=.pointer (some ⟨g,0,none⟩):=by simpa using hp
 have hv':tmps[3]?.getD undef=v:=by simpa using hv
 simp [results,h,hp',hv',asAddr,run_loadVar_row w g 120 120 #[v0,v1,v2] (0,0) _ hb Tryz.underlying120 rfl size_pt]
theorem cmp_eq (x y:Nat):cmpN x y=0 ↔ x=y:=by
 unfold cmpN
 by_cases h:x<y
 ·rw [if_pos h];omega
 ·by_cases h2:y<x
  ·rw [if_neg h,if_pos h2];omega
  ·rw [if_neg h,if_neg h2];omega
theorem three_nv (u:World):NV5 (u.alloc (.cells #[.int .u32 3] 155)) (.slice (some ⟨u.heap.size,0,none⟩) 1 1) 3:=
 ⟨[3],Num.of_blk (l:=[3]) (c:=1) (Blk.new u 155 #[.int .u32 3]) (fun x hx=>by simp at hx;omega) (by simp) (Nat.le_refl _),fun n hn=>by
  have:n=0:=by simpa using hn.symm
  subst this;decide,rfl⟩
theorem ne_ba {s:Bs} (h:s≠[]):¬ ((⟨s.toArray⟩:ByteArray)=⟨#[]⟩):=fun e=>h (by have:=congrArg (fun b:ByteArray=>b.data.toList) e;simpa using this)
theorem b_lot:curveB<lot5:=by decide +kernel
theorem NV5.slv {w:World} {v:Value} {n:Nat} (h:NV5 w v n):∃ a m c,v=.slice a m c:=by
 obtain ⟨l,h1,_⟩:=h
 obtain ⟨a,c,rfl⟩:=h1.sl
 exact ⟨_,_,_,rfl⟩
theorem ec_len {X Y:Bs} (h:¬ (X.length=32∧Y.length=32)):ecP X Y=false:=by
 unfold ecP
 by_cases h1:X.length=32
 ·have h2:¬ Y.length=32:=fun e=>h ⟨h1,e⟩
  simp [h2]
 ·simp [h1]
def InIs (r:Bool) (w:World) (e:Ending) (w':World):Prop:=∃ (b ok:Bool) (v1 v2:Value),e=.returned (.tuple #[.agg #[.bool b,v1,v2],.bool ok])∧(ok && !b)=r∧((#[.bool b,v1,v2]:Array Value).all (·.oneCell'))=true∧Fr NoB w w'
theorem d5in_any (X Y:Bs) (w:World):Calls Tryz.prog 76 #[.agg #[.string ⟨X.toArray⟩,.string ⟨Y.toArray⟩]] w (InIs (ecP X Y) w):=by
 have hzX:(⟨X.toArray⟩:ByteArray).size=X.length:=by show X.toArray.size=_;simp
 have hzY:(⟨Y.toArray⟩:ByteArray).size=Y.length:=by show Y.toArray.size=_;simp
 obtain ⟨res,hres⟩:∃ r,r=ecP X Y:=⟨_,rfl⟩
 rw [← hres]
 have HRS:=Lib.hid hres
 clear hres
 have hone0:(z3.all (·.oneCell'))=true:=by simp [Value.oneCell']
 have hone1:((#[.bool true,.slice none 0 0,.slice none 0 0]:Array Value).all (·.oneCell'))=true:=by simp [Value.oneCell']
 go_enter Tryz.func76,Tryz.ntmps76
 go_upto_region 1 with fail
 have b0:Blk ((w.alloc (.cells #[.string ⟨X.toArray⟩,.string ⟨Y.toArray⟩] 25)).alloc (.cells z3 120)) w.heap.size 25 #[.string ⟨X.toArray⟩,.string ⟨Y.toArray⟩]:=(Blk.new w _ _).alloc _
 have bP:Blk ((w.alloc (.cells #[.string ⟨X.toArray⟩,.string ⟨Y.toArray⟩] 25)).alloc (.cells z3 120)) (w.heap.size+1) 120 z3:=by
  have:=Blk.new (w.alloc (.cells #[.string ⟨X.toArray⟩,.string ⟨Y.toArray⟩] 25)) 120 z3
  simpa using this
 have f0:Fr NoB w ((w.alloc (.cells #[.string ⟨X.toArray⟩,.string ⟨Y.toArray⟩] 25)).alloc (.cells z3 120)):=((Fr.refl _ _).alloc _).alloc _
 generalize (w.alloc (.cells #[.string ⟨X.toArray⟩,.string ⟨Y.toArray⟩] 25)).alloc (.cells z3 120)=W at *
 have q0:W.cell? ⟨w.heap.size,0,none⟩=some (.string ⟨X.toArray⟩):=(b0.cell 0).trans rfl
 have q1:W.cell? ⟨w.heap.size,1,none⟩=some (.string ⟨Y.toArray⟩):=(b0.cell 1).trans rfl
 have hG:w.heap.size≤w.heap.size+1:=Nat.le_succ _
 have HNO:Hid (res=false→Fr NoB w (W.setRow (w.heap.size+1) z3)):=Lib.hid (fun _=>f0.setRow (w.heap.size+1) _ (Or.inl hG))
 by_cases hX:X=[]
 ·have hr:res=false:=by rw [HRS.out];exact ec_len (fun h=>by rw [hX] at h;simp at h)
  by_cases hY:Y=[]
  ·subst hX
   subst hY
   go_wp2_with (refine wpList_store_row rfl 120 _ _ rfl (w.heap.size+1) #[.bool true,.slice none 0 0,.slice none 0 0] rfl rfl 120 z3 bP size_pt rfl hone1 ?_)
   exact bodyPost_ret (pt_back rfl _ _ (w.heap.size+1) _ _ _ (.bool true) rfl rfl (bP.setRow #[.bool true,.slice none 0 0,.slice none 0 0])) rfl ⟨true,true,_,_,rfl,by rw [hr];rfl,hone1,f0.setRow (w.heap.size+1) _ (Or.inl hG)⟩
  ·have h2:Y.isEmpty=false:=by cases Y<;>simp_all
   subst hX
   go_wp2_with (refine wpList_store_row rfl 120 _ _ rfl (w.heap.size+1) z3 rfl rfl 120 z3 bP size_pt rfl hone0 ?_)
   exact bodyPost_ret (pt_back rfl _ _ (w.heap.size+1) _ _ _ (.bool false) rfl rfl (bP.setRow z3)) rfl ⟨false,false,_,_,rfl,by rw [hr];rfl,hone0,f0.setRow (w.heap.size+1) _ (Or.inl hG)⟩
 ·have h1:=ne_ba hX
  by_cases hx32:X.length=32
  rotate_left
  ·have hr:res=false:=by rw [HRS.out];exact ec_len (fun h=>hx32 h.1)
   have k1:¬ (X.length:Int)=32:=by omega
   go_wp2_with (refine wpList_store_row rfl 120 _ _ rfl (w.heap.size+1) z3 rfl rfl 120 z3 bP size_pt rfl hone0 ?_)
   exact bodyPost_ret (pt_back rfl _ _ (w.heap.size+1) _ _ _ (.bool false) rfl rfl (bP.setRow z3)) rfl ⟨false,false,_,_,rfl,by rw [hr];rfl,hone0,f0.setRow (w.heap.size+1) _ (Or.inl hG)⟩
  ·by_cases hy32:Y.length=32
   rotate_left
   ·have hr:res=false:=by rw [HRS.out];exact ec_len (fun h=>hy32 h.2)
    have k1:(X.length:Int)=32:=by omega
    have k2:¬ (Y.length:Int)=32:=by omega
    clear hx32
    go_wp2_with (refine wpList_store_row rfl 120 _ _ rfl (w.heap.size+1) z3 rfl rfl 120 z3 bP size_pt rfl hone0 ?_)
    exact bodyPost_ret (pt_back rfl _ _ (w.heap.size+1) _ _ _ (.bool false) rfl rfl (bP.setRow z3)) rfl ⟨false,false,_,_,rfl,by rw [hr];rfl,hone0,f0.setRow (w.heap.size+1) _ (Or.inl hG)⟩
   ·have HRS2:Hid (res=(decide (natB X<pP)&&decide (natB Y<pP)&&decide (natB Y*natB Y % pP=rightP (natB X)))):=Lib.hid (by rw [HRS.out,ecP,onP,decide_eq_true hx32,decide_eq_true hy32,Bool.true_and,Bool.true_and])
    have KX:=Lib.hid (fun u=>d5read_any X u (by omega))
    have KY:=Lib.hid (fun u=>d5read_any Y u (by omega))
    have k1:(X.length:Int)=32:=by omega
    have k2:(Y.length:Int)=32:=by omega
    clear hx32 hy32 HRS
    go_upto_region 5 with fail
    have HSS:Hid (∀ u,Fr NoB W u→(fun w'=>w'.cell? ⟨w.heap.size,0,none⟩=some (.string ⟨X.toArray⟩)∧w'.cell? ⟨w.heap.size,1,none⟩=some (.string ⟨Y.toArray⟩)) u):=Lib.hid (fun u fu=>⟨fu.celK q0,fu.celK q1⟩)
    clear b0 h1 k1 k2 hzX hzY
    go_region_held3 (fun w'=>w'.cell? ⟨w.heap.size,0,none⟩=some (.string ⟨X.toArray⟩)∧w'.cell? ⟨w.heap.size,1,none⟩=some (.string ⟨Y.toArray⟩)) (first|(with_reducible exact HSS.out _ t2)|(with_reducible exact HSS.out _ t1)|go_keep) (first|(go_at_call 121;(with_reducible refine (KX.out _).mono ?_);rintro er v1 ⟨vx,rfl,nx,t1'⟩;(with_reducible have t1:Fr NoB W v1:=(Fr.refl NoB W).drew.trans t1'))|(go_at_call 121;(with_reducible refine (KY.out _).mono ?_);rintro er v2 ⟨vy,rfl,ny,t2'⟩;(with_reducible have t2:Fr NoB W v2:=t1.trans t2')))
    have f:=f0.trans t2
    have nxx:=nx.fr t2'
    have bQ:=t2.blk bP (fun e=>e)
    clear HSS KX KY q0 q1 t1' t1 t2' nx bP f0 t2 HNO
    generalize natB X=x at *
    generalize natB Y=y at *
    obtain ⟨ax,mx,cx,rfl⟩:=nxx.slv
    obtain ⟨ay,my,cy,rfl⟩:=ny.slv
    have HX:=Lib.hid nxx
    have HY:=Lib.hid ny
    have HM:=Lib.hid d5mod_any
    obtain ⟨z1,hz1⟩:∃ z,z=cmpN x pP:=⟨_,rfl⟩
    obtain ⟨z2,hz2⟩:∃ z,z=cmpN y pP:=⟨_,rfl⟩
    have HC1:Hid (∀ u vm,Fr NoB v2 u→Num .u32 u vm pL→Calls Tryz.prog 122 #[.slice ax mx cx,vm] u fun e w'=>e=.returned (.int .i64 z1)∧Fr NoB u w'):=Lib.hid (fun u vm fu hm=>by
     rw [hz1];exact cmp5 (HX.out.fr fu) ⟨pL,hm,pL_top,pL_val⟩)
    have HC2:Hid (∀ u vm,Fr NoB v2 u→Num .u32 u vm pL→Calls Tryz.prog 122 #[.slice ay my cy,vm] u fun e w'=>e=.returned (.int .i64 z2)∧Fr NoB u w'):=Lib.hid (fun u vm fu hm=>by
     rw [hz2];exact cmp5 (HY.out.fr fu) ⟨pL,hm,pL_top,pL_val⟩)
    have g1:=cmp_ge x pP
    have g2:=cmp_ge y pP
    rw [← hz1] at g1
    rw [← hz2] at g2
    clear nxx ny hz1 hz2
    by_cases hx:x<pP
    rotate_left
    ·have k1:(0:Int)≤z1:=g1.2 (by omega)
     have hr:res=false:=by rw [HRS2.out];simp [hx]
     clear g1 g2
     go_wp2_with (first|(have tk:=t6;refine wpList_store_row rfl 120 _ _ rfl (w.heap.size+1) z3 rfl rfl 120 z3 (t6.blk bQ (fun e=>e)) size_pt rfl hone0 ?_)|(go_at_call 123;((with_reducible refine (HM.out _).mono ?_);rintro e w5 ⟨vm,rfl,nm,t5⟩))|(go_at_call 122;((with_reducible refine (HC1.out _ _ t5 nm).mono ?_);rintro e w6 ⟨rfl,t6'⟩;have t6:=t5.trans t6')))
     exact bodyPost_ret (pt_back rfl _ _ (w.heap.size+1) _ _ _ (.bool false) rfl rfl ((t6.blk bQ (fun e=>e)).setRow z3)) rfl ⟨false,false,_,_,rfl,by rw [hr];rfl,hone0,(f.trans t6).setRow (w.heap.size+1) _ (Or.inl hG)⟩
    ·have k1:¬ (0:Int)≤z1:=fun h=>by have:=g1.1 h;omega
     by_cases hy:y<pP
     rotate_left
     ·have k2:(0:Int)≤z2:=g2.2 (by omega)
      have hr:res=false:=by rw [HRS2.out];simp [hy]
      clear g1 g2
      go_wp2_with (first|(have tk:=t8;refine wpList_store_row rfl 120 _ _ rfl (w.heap.size+1) z3 rfl rfl 120 z3 (t8.blk bQ (fun e=>e)) size_pt rfl hone0 ?_)|(have tk:=t7;go_at_call 122;((with_reducible refine (HC2.out _ _ t7 nm2).mono ?_);rintro e w8 ⟨rfl,t8'⟩;have t8:=t7.trans t8'))|(have tk:=t6;go_at_call 123;((with_reducible refine (HM.out _).mono ?_);rintro e w7 ⟨vm2,rfl,nm2,t7'⟩;have t7:=t6.trans t7'))|(go_at_call 123;((with_reducible refine (HM.out _).mono ?_);rintro e w5 ⟨vm,rfl,nm,t5⟩))|(go_at_call 122;((with_reducible refine (HC1.out _ _ t5 nm).mono ?_);rintro e w6 ⟨rfl,t6'⟩;have t6:=t5.trans t6')))
      exact bodyPost_ret (pt_back rfl _ _ (w.heap.size+1) _ _ _ (.bool false) rfl rfl ((t8.blk bQ (fun e=>e)).setRow z3)) rfl ⟨false,false,_,_,rfl,by rw [hr];rfl,hone0,(f.trans t8).setRow (w.heap.size+1) _ (Or.inl hG)⟩
     ·have k2:¬ (0:Int)≤z2:=fun h=>by have:=g2.1 h;omega
      have HR3:Hid (res=decide (y*y % pP=rightP x)):=Lib.hid (by rw [HRS2.out,decide_eq_true hx,decide_eq_true hy];rfl)
      have hxl:x<lot5:=Nat.lt_trans hx p_lot
      have hyl:y<lot5:=Nat.lt_trans hy p_lot
      have HT:=Lib.hid (fun u va vb a b (ha:NV5 u va a) (hb:NV5 u vb b) h1 h2=>d5times_any ha hb h1 h2)
      have HMi:=Lib.hid (fun u va vb a b (ha:NV5 u va a) (hb:NV5 u vb b) h1 h2=>d5minus_any ha hb h1 h2)
      have HPl:=Lib.hid (fun u va vb a b (ha:NV5 u va a) (hb:NV5 u vb b) h1 h2=>d5plus_any ha hb h1 h2)
      have HBc:=Lib.hid d5b_any
      have HCM:=Lib.hid (fun u va vb a b (ha:NV5 u va a) (hb:NV5 u vb b)=>cmp5 ha hb)
      have HHX:=Lib.hid hxl
      have HHY:=Lib.hid hyl
      clear g1 g2 hx hy HRS2 hxl hyl
      go_upto_region 8 with (first|(have tk:=t7;go_at_call 122;((with_reducible refine (HC2.out _ _ t7 nm2).mono ?_);rintro e w8 ⟨rfl,t8'⟩;have t8:=t7.trans t8'))|(have tk:=t6;go_at_call 123;((with_reducible refine (HM.out _).mono ?_);rintro e w7 ⟨vm2,rfl,nm2,t7'⟩;have t7:=t6.trans t7'))|(go_at_call 123;((with_reducible refine (HM.out _).mono ?_);rintro e w5 ⟨vm,rfl,nm,t5⟩))|(go_at_call 122;((with_reducible refine (HC1.out _ _ t5 nm).mono ?_);rintro e w6 ⟨rfl,t6'⟩;have t6:=t5.trans t6')))
      have hX8:=HX.out.fr t8
      have hY8:=HY.out.fr t8
      have HX8:=Lib.hid hX8
      have HY8:=Lib.hid hY8
      have F8:=f.trans t8
      have b8:=t8.blk bQ (fun e=>e)
      clear t5 t6 t7 t8 t6' t7' t8' nm nm2 bQ f HX HY HC1 HC2 hX8 hY8 k1 k2
      go_upto_region 9 with (first|(have tk:=n5;go_at_call 124;((with_reducible refine (HPl.out _ _ _ _ _ (n4.fr r5) n5 (mod_lot _) b_lot).mono ?_);rintro e w16 ⟨v16,rfl,n6,r6⟩))|(have tk:=n4;go_at_call 127;((with_reducible refine (HBc.out _).mono ?_);rintro e w15 ⟨v15,rfl,n5,r5⟩))|(have tk:=n3;go_at_call 125;((with_reducible refine (HMi.out _ _ _ _ _ (n2.fr r3) n3 (mod_lot _) (mod_lot _)).mono ?_);rintro e w14 ⟨v14,rfl,n4,r4⟩))|(have tk:=n2;go_at_call 126;((with_reducible refine (HT.out _ _ _ _ _ (three_nv w12) (HX8.out.fr ((r1.trans r2).alloc _)) (by decide) HHX.out).mono ?_);rintro e w13 ⟨v13,rfl,n3,r3'⟩;have r3:=((Fr.refl NoB w12).alloc _).trans r3'))|(have tk:=n1;go_at_call 126;((with_reducible refine (HT.out _ _ _ _ _ (HX8.out.fr r1) n1 HHX.out (mod_lot _)).mono ?_);rintro e w12 ⟨v12,rfl,n2,r2⟩))|(go_at_call 126;((with_reducible refine (HT.out _ _ _ _ _ HX8.out HX8.out HHX.out HHX.out).mono ?_);rintro e w11 ⟨v11,rfl,n1,r1⟩)))
      have F9:=((((r1.trans r2).trans r3).trans r4).trans r5).trans r6
      have HY9:=Lib.hid (HY8.out.fr F9)
      have b9:=F9.blk b8 (fun e=>e)
      have FF:=F8.trans F9
      have HR6:=Lib.hid n6
      clear n1 n2 n3 n4 n5 n6 r1 r2 r3 r3' r4 r5 r6 HX8 HY8 F8 F9 b8
      obtain ⟨zq,hzq⟩:∃ z,z=cmpN (y*y % pP) (rightP x):=⟨_,rfl⟩
      have HZ:=cmp_eq (y*y % pP) (rightP x)
      rw [← hzq] at HZ
      have HCE:Hid (∀ u va,NV5 u va (y*y % pP)→Fr NoB w16 u→Calls Tryz.prog 122 #[va,v16] u fun e w'=>e=.returned (.int .i64 zq)∧Fr NoB u w'):=Lib.hid (fun u va h1 h2=>by
       rw [hzq];exact HCM.out u va v16 _ _ h1 (HR6.out.fr h2))
      have honeX:((#[.bool false,.slice ax mx cx,.slice ay my cy]:Array Value).all (·.oneCell'))=true:=by simp [Value.oneCell']
      clear hzq
      by_cases hq:y*y % pP=rightP x
      ·have hr:res=true:=by rw [HR3.out,decide_eq_true hq]
       obtain rfl:=HZ.2 hq
       clear HZ hq
       go_wp2_with (first|(have tk:=r8;refine wpList_store_row rfl 120 _ _ rfl (w.heap.size+1) #[.bool false,.slice ax mx cx,.slice ay my cy] rfl rfl 120 z3 ((r7.trans r8).blk b9 (fun e=>e)) size_pt rfl honeX ?_)|(go_at_call 126;((with_reducible refine (HT.out _ _ _ _ _ HY9.out HY9.out HHY.out HHY.out).mono ?_);rintro e w17 ⟨v17,rfl,n7,r7⟩))|(go_at_call 122;((with_reducible refine (HCE.out _ _ n7 r7).mono ?_);rintro e w18 ⟨rfl,r8⟩)))
       exact bodyPost_ret (pt_back rfl _ _ (w.heap.size+1) _ _ _ (.bool true) rfl rfl (((r7.trans r8).blk b9 (fun e=>e)).setRow #[.bool false,.slice ax mx cx,.slice ay my cy])) rfl ⟨false,true,_,_,rfl,by rw [hr];rfl,honeX,(FF.trans (r7.trans r8)).setRow (w.heap.size+1) _ (Or.inl hG)⟩
      ·have hr:res=false:=by rw [HR3.out,decide_eq_false hq]
       have hz0:¬ zq=0:=fun e=>hq (HZ.1 e)
       clear HZ hq
       go_wp2_with (first|(have tk:=r8;refine wpList_store_row rfl 120 _ _ rfl (w.heap.size+1) #[.bool false,.slice ax mx cx,.slice ay my cy] rfl rfl 120 z3 ((r7.trans r8).blk b9 (fun e=>e)) size_pt rfl honeX ?_)|(go_at_call 126;((with_reducible refine (HT.out _ _ _ _ _ HY9.out HY9.out HHY.out HHY.out).mono ?_);rintro e w17 ⟨v17,rfl,n7,r7⟩))|(go_at_call 122;((with_reducible refine (HCE.out _ _ n7 r7).mono ?_);rintro e w18 ⟨rfl,r8⟩)))
       exact bodyPost_ret (pt_back rfl _ _ (w.heap.size+1) _ _ _ (.bool (zq==0)) rfl rfl (((r7.trans r8).blk b9 (fun e=>e)).setRow #[.bool false,.slice ax mx cx,.slice ay my cy])) rfl ⟨false,zq==0,_,_,rfl,by rw [hr];simp [hz0],honeX,(FF.trans (r7.trans r8)).setRow (w.heap.size+1) _ (Or.inl hG)⟩
theorem d5check_any (X Y:Bs) (w:World):Calls Tryz.prog 39 #[.agg #[.string ⟨X.toArray⟩,.string ⟨Y.toArray⟩]] w fun e w'=>e=.returned (.bool (ecP X Y))∧Fr NoB w w':=by
 have b0:=Blk.new w 25 #[.string ⟨X.toArray⟩,.string ⟨Y.toArray⟩]
 have f0:Fr NoB w (w.alloc (.cells #[.string ⟨X.toArray⟩,.string ⟨Y.toArray⟩] 25)):=(Fr.refl _ _).alloc _
 have HI:=Lib.hid (fun u=>d5in_any X Y u)
 generalize ecP X Y=res at *
 go_enter Tryz.func39,Tryz.ntmps39
 go_upto_region 1 with fail
 generalize w.alloc (.cells #[.string ⟨X.toArray⟩,.string ⟨Y.toArray⟩] 25)=W at *
 have q0:W.cell? ⟨w.heap.size,0,none⟩=some (.string ⟨X.toArray⟩):=(b0.cell 0).trans rfl
 have q1:W.cell? ⟨w.heap.size,1,none⟩=some (.string ⟨Y.toArray⟩):=(b0.cell 1).trans rfl
 clear b0
 go_upto_region 2 with (first|(go_at_call 76;(with_reducible refine (HI.out _).mono ?_);rintro e w1 ⟨b,ok,v1,v2,rfl,hr,hone,f1⟩;have b3:=Blk.new w1 120 z3)|(refine wpList_store_row rfl 120 _ _ rfl w1.heap.size #[.bool b,v1,v2] rfl rfl 120 z3 b3 size_pt rfl hone ?_))
 have F:=f0.trans (f1.trans (((Fr.refl NoB w1).alloc (.cells z3 120)).setRow w1.heap.size #[.bool b,v1,v2] (Or.inl (Nat.le_refl _))))
 have d0:((w1.alloc (.cells z3 120)).setRow w1.heap.size #[.bool b,v1,v2]).cell? ⟨w1.heap.size,0,none⟩=some (.bool b):=((b3.setRow #[.bool b,v1,v2]).cell 0).trans rfl
 clear b3 f1 f0 q0 q1
 generalize (w1.alloc (.cells z3 120)).setRow w1.heap.size #[.bool b,v1,v2]=W2 at *
 subst hr
 cases ok with
 | false=>
  go_wp2_with fail
  go_ret
  exact ⟨rfl,F⟩
 | true=>
  cases b with
  | false=>
   go_wp2_with fail
   go_ret
   exact ⟨rfl,F⟩
  | true=>
   go_wp2_with fail
   go_ret
   exact ⟨rfl,F⟩
end Go.Proofs.YtbifjamddbpcjaaGreatDoor
