/- The document's numbers (layer 5): modulo P; Read. -/
import Derived.Laws.OwnMore
import Derived.Test.YtbifjamddbpcjaaGreatDoorDb
namespace Go.Proofs.YtbifjamddbpcjaaGreatDoor
set_option maxRecDepth 100000
set_option maxHeartbeats 25600000
open Go.RowKit
abbrev pL:List Nat:=[65535,65535,65535,65535,65535,65535,0,0,0,0,0,0,1,0,65535,65535]
abbrev bL:List Nat:=[24651,10194,15422,15310,45302,52307,1712,25885,34492,30360,48469,46059,37863,43578,13784,23238]
theorem po:ae pL=pP:=by decide +kernel
theorem QH:ae bL=jL:=by decide +kernel
theorem UK:bl pL:=fun x hx=>by simp [pL] at hx;omega
theorem UL:bl bL:=fun x hx=>by simp [bL] at hx;omega
def jA (w:World) (v:Value) (n:Nat):Prop:=∃ l,dU .u32 w v l/\BF l/\ae l=n
theorem jA.fr {w u:World} {v:Value} {n:Nat} (h:jA w v n) (f:Fr NoB w u):jA u v n:=by
 obtain ⟨l,h1,h2,h3⟩:=h;exact ⟨l,h1.fr f,h2,h3⟩
def wW (w:World) (n:Nat) (e:Ending) (w':World):Prop:=∃ v,e=.returned v/\jA w' v n/\Fr NoB w w'
theorem DE {w w':World} {n:Nat} {e:Ending} (h:yH w n e w'):wW w n e w':=by
 obtain ⟨v,l,rfl,h1,h2,h3,h4⟩:=h;exact ⟨v,rfl,⟨l,h1,h2,h3⟩,h4⟩
theorem MY {l:List Nat} {k:Nat} (ht:BF l) (h:ae l<65536 ^ k):l.length<=k:=by
 refine Decidable.byContradiction fun hc => ?_;obtain ⟨n,hn⟩:∃ n,l.length=n+1:=⟨l.length - 1,by omega⟩;have h1:=ht.ge hn;have h2:65536 ^ k<=65536 ^ n:=Nat.pow_le_pow_right (by decide) (by omega);omega
abbrev eC:Nat:=65536 ^ 40
theorem yI:pP<eC:=by decide +kernel
theorem nU (n:Nat):n % pP<eC:=Nat.lt_trans (Nat.mod_lt _ (by decide)) yI
theorem jA.len {w:World} {v:Value} {n:Nat} (h:jA w v n) (hn:n<65536 ^ 90):∃ l,dU .u32 w v l/\BF l/\ae l=n/\l.length<=90:=by
 obtain ⟨l,h1,h2,h3⟩:=h;exact ⟨l,h1,h2,h3,MY h2 (by rw [h3];exact hn)⟩
theorem I0:BF pL:=fun n hn=>by
 have:n=15:=by simpa using hn.symm
 subst this;decide
theorem QI:BF bL:=fun n hn=>by
 have:n=15:=by simpa using hn.symm
 subst this;decide
theorem mf (w:World):Calls Tryz.prog 123 #[.int .i64 0] w fun e w'=>∃ v,e=.returned v/\dU .u32 w' v pL/\Fr NoB w w':=by
 go_enter Tryz.func123,Tryz.ntmps123;go_wp2_with fail;go_ret;exact ⟨_,rfl,dU.iZ (l:=pL) (c:=16) (Blk.new w _ _) UK (by decide) (Nat.le_refl _),(Fr.refl _ _).alloc _⟩
theorem MZ (w:World):Calls Tryz.prog 127 #[] w (wW w jL):=by
 go_enter Tryz.func127,Tryz.ntmps127;go_wp2_with fail;go_ret;exact ⟨_,rfl,⟨bL,dU.iZ (l:=bL) (c:=16) (Blk.new w _ _) UL (by decide) (Nat.le_refl _),QI,QH⟩,(Fr.refl _ _).alloc _⟩
theorem DF {w:World} {v vm:Value} {n:Nat} (h:jA w v n) (hn:n<65536 ^ 90) (hm:dU .u32 w vm pL):Calls Tryz.prog 202 #[v,vm] w (wW w (n % pP)):=by
 obtain ⟨l,h1,h2,h3,h4⟩:=h.len hn;have:=BG l pL v vm w h1 hm (by omega) (by decide) (by rw [po];decide);rw [h3,po] at this;exact this.mono (fun e w' h=>DE h)
theorem Zz {w:World} {va vb:Value} {x y:Nat} (ha:jA w va x) (hb:jA w vb y) (hx:x<eC) (hy:y<eC):Calls Tryz.prog 203 #[va,vb] w (wW w (x+y)):=by
 have hp:eC<=65536 ^ 90:=Nat.pow_le_pow_right (by decide) (by decide);obtain ⟨l,h1,h2,h3,h4⟩:=ha.len (Nat.lt_of_lt_of_le hx hp);obtain ⟨m,g1,g2,g3,g4⟩:=hb.len (Nat.lt_of_lt_of_le hy hp);have:=E4 l m va vb w h1 g1 (by omega) (by omega);rw [h3,g3] at this;exact this.mono (fun e w' h=>DE h)
theorem ZA {w:World} {va vb:Value} {x y:Nat} (ha:jA w va x) (hb:jA w vb y) (hx:x<eC) (hy:y<eC):Calls Tryz.prog 205 #[va,vb] w (wW w (x*y)):=by
 have hp:eC<=65536 ^ 90:=Nat.pow_le_pow_right (by decide) (by decide);obtain ⟨l,h1,h2,h3,h4⟩:=ha.len (Nat.lt_of_lt_of_le hx hp);obtain ⟨m,g1,g2,g3,g4⟩:=hb.len (Nat.lt_of_lt_of_le hy hp);have:=E5 l m va vb w h1 g1 (by omega) (by omega);rw [h3,g3] at this;exact this.mono (fun e w' h=>DE h)
theorem ZB {w:World} {va vb:Value} {y:Nat} (ha:dU .u32 w va pL) (hb:jA w vb y) (hy:y<=pP):Calls Tryz.prog 204 #[va,vb] w (wW w (pP - y)):=by
 have hp:eC<=65536 ^ 90:=Nat.pow_le_pow_right (by decide) (by decide);obtain ⟨m,g1,g2,g3,g4⟩:=hb.len (Nat.lt_of_le_of_lt hy (Nat.lt_of_lt_of_le yI hp));have:=E6 pL m va vb w ha g1 (by decide) (by omega) (by rw [g3,po];exact hy);rw [g3,po] at this;exact this.mono (fun e w' h=>DE h)
theorem QJ {w:World} {va vb:Value} {x y:Nat} (ha:jA w va x) (hb:jA w vb y):Calls Tryz.prog 122 #[va,vb] w fun e w'=>e=.returned (.int .i64 (fp x y))/\Fr NoB w w':=by
 obtain ⟨l,h1,h2,h3⟩:=ha;obtain ⟨m,g1,g2,g3⟩:=hb;have:=uJ l m va vb w h1 g1;rw [h3,g3] at this;exact this
theorem M3 {x y:Nat} (hx:x<eC) (hy:y<eC):x+y<65536 ^ 90:=by
 have:eC+eC<=65536 ^ 90:=by decide +kernel
 omega
theorem M4 {x y:Nat} (hx:x<eC) (hy:y<eC):x*y<65536 ^ 90:=by
 have h1:x*y<=eC*eC:=Nat.mul_le_mul (by omega) (by omega);have:eC*eC<65536 ^ 90:=by decide +kernel
 omega
theorem uK {w:World} {va vb:Value} {x y:Nat} (ha:jA w va x) (hb:jA w vb y) (hx:x<eC) (hy:y<eC):Calls Tryz.prog 170 #[.int .i64 0,va,vb] w (wW w ((x+y) % pP)):=by
 have HA:=hd' (Zz ha hb hx hy);have HM:=hd' mf;have HL:Hid (∀ u v vm,jA u v (x+y)->dU .u32 u vm pL->Calls Tryz.prog 202 #[v,vm] u (wW u ((x+y) % pP))):=hd' (fun u v vm h hm=>DF h (M3 hx hy) hm);clear ha hb hx hy;generalize x+y=z at *;generalize z % pP=r at *;go_enter Tryz.func170,Tryz.ntmps170;go_wp2_with (first|(go_at_call 203;((with_reducible refine HA.out.mono ?_);rintro e w1 ⟨v1,rfl,n1,f1⟩))|(go_at_call 123;((with_reducible refine (HM.out _).mono ?_);rintro e w2 ⟨v2,rfl,n2,f2⟩))|(go_at_call 202;((with_reducible refine (HL.out _ _ _ (n1.fr f2) n2).mono ?_);rintro e w3 ⟨v3,rfl,n3,f3⟩)));go_ret;exact ⟨_,rfl,n3,(f1.trans f2).trans f3⟩
theorem BH {w:World} {va vb:Value} {x y:Nat} (ha:jA w va x) (hb:jA w vb y) (hx:x<eC) (hy:y<eC):Calls Tryz.prog 172 #[.int .i64 0,va,vb] w (wW w (x*y % pP)):=by
 have HA:=hd' (ZA ha hb hx hy);have HM:=hd' mf;have HL:Hid (∀ u v vm,jA u v (x*y)->dU .u32 u vm pL->Calls Tryz.prog 202 #[v,vm] u (wW u (x*y % pP))):=hd' (fun u v vm h hm=>DF h (M4 hx hy) hm);clear ha hb hx hy;generalize x*y=z at *;generalize z % pP=r at *;go_enter Tryz.func172,Tryz.ntmps172;go_wp2_with (first|(go_at_call 205;((with_reducible refine HA.out.mono ?_);rintro e w1 ⟨v1,rfl,n1,f1⟩))|(go_at_call 123;((with_reducible refine (HM.out _).mono ?_);rintro e w2 ⟨v2,rfl,n2,f2⟩))|(go_at_call 202;((with_reducible refine (HL.out _ _ _ (n1.fr f2) n2).mono ?_);rintro e w3 ⟨v3,rfl,n3,f3⟩)));go_ret;exact ⟨_,rfl,n3,(f1.trans f2).trans f3⟩
theorem E7 {w:World} {va:Value} {x:Nat} (ha:jA w va x) (hx:x<eC):Calls Tryz.prog 171 #[.int .i64 0,va] w (wW w ((pP - x % pP) % pP)):=by
 have hp:eC<=65536 ^ 90:=Nat.pow_le_pow_right (by decide) (by decide);have HA:=hd' ha;have HM:=hd' mf;have uL:Hid (∀ u v vm,jA u v x->dU .u32 u vm pL->Calls Tryz.prog 202 #[v,vm] u (wW u (x % pP))):=hd' (fun u v vm h hm=>DF h (Nat.lt_of_lt_of_le hx hp) hm);have HS:Hid (∀ u v vm,jA u v (x % pP)->dU .u32 u vm pL->Calls Tryz.prog 204 #[vm,v] u (wW u (pP - x % pP))):=hd' (fun u v vm h hm=>ZB hm h (Nat.le_of_lt (Nat.mod_lt _ (by decide))));have jt:Hid (∀ u v vm,jA u v (pP - x % pP)->dU .u32 u vm pL->Calls Tryz.prog 202 #[v,vm] u (wW u ((pP - x % pP) % pP))):=hd' (fun u v vm h hm=>DF h (Nat.lt_of_le_of_lt (Nat.sub_le _ _) (Nat.lt_of_lt_of_le yI hp)) hm);clear ha hx hp;generalize (pP - x % pP) % pP=r2 at *;generalize pP - x % pP=r1 at *;generalize x % pP=r0 at *;go_enter Tryz.func171,Tryz.ntmps171;go_wp2_with (first|(have tk:=f4;go_at_call 123;((with_reducible refine (HM.out _).mono ?_);rintro e w5 ⟨v5,rfl,n5,f5⟩))|(have tk:=f5;go_at_call 202;((with_reducible refine (jt.out _ _ _ (n4.fr f5) n5).mono ?_);rintro e w6 ⟨v6,rfl,n6,f6⟩))|(have tk:=f1;go_at_call 123;((with_reducible refine (HM.out _).mono ?_);rintro e w2 ⟨v2,rfl,n2,f2⟩))|(go_at_call 123;((with_reducible refine (HM.out _).mono ?_);rintro e w1 ⟨v1,rfl,n1,f1⟩))|(go_at_call 202;((with_reducible refine (uL.out _ _ _ ((HA.out.fr f1).fr f2) n2).mono ?_);rintro e w3 ⟨v3,rfl,n3,f3⟩))|(go_at_call 204;((with_reducible refine (HS.out _ _ _ n3 ((n1.fr f2).fr f3)).mono ?_);rintro e w4 ⟨v4,rfl,n4,f4⟩)));go_ret;exact ⟨_,rfl,n6,((((f1.trans f2).trans f3).trans f4).trans f5).trans f6⟩
theorem yJ {w:World} {va vb:Value} {x y:Nat} (ha:jA w va x) (hb:jA w vb y) (hx:x<eC) (hy:y<eC):Calls Tryz.prog 126 #[va,vb] w (wW w (x*y % pP)):=by
 have HA:=hd' (BH ha hb hx hy);clear ha hb hx hy;generalize x*y % pP=z at *;go_enter Tryz.func126,Tryz.ntmps126;go_wp2_with (go_at_call 172;((with_reducible refine HA.out.mono ?_);rintro e w1 ⟨v1,rfl,n1,f1⟩));go_ret;exact ⟨_,rfl,n1,f1⟩
theorem BJ {w:World} {va vb:Value} {x y:Nat} (ha:jA w va x) (hb:jA w vb y) (hx:x<eC) (hy:y<eC):Calls Tryz.prog 124 #[va,vb] w (wW w ((x+y) % pP)):=by
 have HA:=hd' (uK ha hb hx hy);clear ha hb hx hy;generalize (x+y) % pP=z at *;go_enter Tryz.func124,Tryz.ntmps124;go_wp2_with (go_at_call 170;((with_reducible refine HA.out.mono ?_);rintro e w1 ⟨v1,rfl,n1,f1⟩));go_ret;exact ⟨_,rfl,n1,f1⟩
theorem yK {w:World} {va vb:Value} {x y:Nat} (ha:jA w va x) (hb:jA w vb y) (hx:x<eC) (hy:y<eC):Calls Tryz.prog 125 #[va,vb] w (wW w ((x+(pP - y % pP) % pP) % pP)):=by
 have HA:=hd' ha;have HO:=hd' (E7 hb hy);have HS:Hid (∀ u v,jA u va x->jA u v ((pP - y % pP) % pP)->Calls Tryz.prog 170 #[.int .i64 0,va,v] u (wW u ((x+(pP - y % pP) % pP) % pP))):=hd' (fun u v h1 h2=>uK h1 h2 hx (nU _));clear ha hb hx hy;generalize (x+(pP - y % pP) % pP) % pP=z at *;generalize (pP - y % pP) % pP=t at *;go_enter Tryz.func125,Tryz.ntmps125;go_wp2_with (first|(go_at_call 171;((with_reducible refine HO.out.mono ?_);rintro e w1 ⟨v1,rfl,n1,f1⟩))|(go_at_call 170;((with_reducible refine (HS.out _ _ (HA.out.fr f1) n1).mono ?_);rintro e w2 ⟨v2,rfl,n2,f2⟩)));go_ret;exact ⟨_,rfl,n2,f1.trans f2⟩
theorem DG (a b:Nat) (ha:a<4294967296) (hb:b<4294967296):bits .or .u32 (a:Int) (b:Int)=((a ||| b:Nat):Int):=by
 have hx:a ||| b<2 ^ 32:=Nat.or_lt_two_pow (by omega) (by omega)
 have h1:(BitVec.ofInt 32 (a:Int)).toNat=a:=by
  rw [BitVec.ofInt_natCast,BitVec.toNat_ofNat];exact Nat.mod_eq_of_lt (by omega)
 have h2:(BitVec.ofInt 32 (b:Int)).toNat=b:=by
  rw [BitVec.ofInt_natCast,BitVec.toNat_ofNat];exact Nat.mod_eq_of_lt (by omega)
 show IntKind.u32.wrap ((BitVec.ofInt 32 (a:Int) ||| BitVec.ofInt 32 (b:Int)).toNat:Int)=_;rw [BitVec.toNat_or,h1,h2,IntKind.wrap_u32];omega
theorem UM (a c:Nat) (ha:a<256) (hc:c<256):bits .or .u32 (a:Int) ((c:Int)*256)=((a+c*256:Nat):Int):=by
 have e:(c:Int)*256=((c*256:Nat):Int):=by simp
 rw [e,DG a (c*256) (by omega) (by omega),Nat.or_comm,ry c a 8 (by omega)];omega
theorem or_none (c:Nat) (hc:c<256):bits .or .u32 0 (c:Int)=(c:Int):=by
 have:=DG 0 c (by decide) (by omega);rw [Nat.zero_or] at this;exact this
theorem UR.sto {lo:Nat} {w:World} {v:Value} {l:List Nat} (h:UR lo w v l) {q:Nat} (hq:q<l.length) :
  ∃ g c,v=.slice (some ⟨g,0,none⟩) l.length c/\lo<=g/\g<w.heap.size/\w.cell? ⟨g,q,none⟩=some (dV .u32 (l.getD q 0))/\w.frozen? ⟨g,q,none⟩=false/\∀ x:Nat,UR lo (w.setCell ⟨g,q,none⟩ (dV .u32 x)) (.slice (some ⟨g,0,none⟩) l.length c) (l.set q x):=by
 have h0:w.ownsRow lo 155 1 v l.length (l.map (dV .u32)):=h;rcases h0.2 with ⟨_,e⟩|⟨g,cap,cur,rfl,hg,hh,hn,_⟩
 ·omega
 ·refine ⟨g,cap,rfl,hg,lt_of_block hh,?_,h0.frozenAt q,fun x => ?_⟩
  ·rw [h0.cellAt q (by omega),List.getElem?_map,List.getD_eq_getElem?_getD,List.getElem?_eq_getElem hq];rfl
  ·have:=(h0.stored q (dV .u32 x)).1;rw [<- List.map_set] at this;unfold UR;rw [List.length_set];exact this
theorem rz (s:Bs) (w:World) (hl:s.length<=1000):Calls Tryz.prog 121 #[.string ⟨s.toArray⟩] w (wW w (ar s)):=by
 have hsz:(⟨s.toArray⟩:ByteArray).size=s.length:=rfl;go_enter Tryz.func121,Tryz.ntmps121;go_upto_region 2 with fail;have I1:=UR.new w;have f0:Fr NoB w (w.alloc (.cells #[] 155)):=(Fr.refl _ _).alloc _;generalize w.alloc (.cells #[] 155)=W at *;go_wp2_with fail;go_loopw [3,4] (fun v3 v4 wr=>∃ (i:Nat) (z:Int) (l:List Nat),i<=s.length/\v4=.int .i64 z/\Hid (z=(s.length:Int) - 1 - i)/\bl l/\Hid (l.length=(i+1) / 2)/\Hid (ae l=ar (s.drop (s.length - i)))/\UR w.heap.size wr v3 l/\Fr NoB w wr) (fun _ v4 _=>(intOf v4+1).toNat)
 case atStart=>exact ⟨0,_,[],Nat.zero_le _,rfl,hd' (by simp),(fun x hx=>by simp at hx),hd' rfl,hd' (by simp [ar,ae]),I1,f0⟩
 case round=>
  clear I1 f0;obtain ⟨i,z,l,hi,rfl,HZ,bX,HL,HV,hu,hf⟩:=hrel;have hz:=HZ.out;by_cases hlt:i<s.length
  ·obtain ⟨p,hp⟩:∃ p,p=s.length - 1 - i:=⟨_,rfl⟩;obtain ⟨q,hq⟩:∃ q,q=i / 2:=⟨_,rfl⟩;obtain rfl:z=(p:Int):=by omega
   have hpl:p<s.length:=by omega
   have hg:=aM s p hpl;have hgd:s.getD p 0=s[p]:=by rw [List.getD_eq_getElem?_getD,List.getElem?_eq_getElem hpl];rfl
   have s1:(s.length:Int) - 1 - (p:Int)=(i:Int):=by omega
   have k3:(0:Int)<=p:=by omega
   have k4:(p:Int)<s.length:=by omega
   have e1:(i:Int).tdiv 2=(q:Int):=by rw [Int.tdiv_eq_ediv_of_nonneg (by omega)];omega
   have e3:(i:Int) / 2=(q:Int):=by omega
   have k5:(0:Int)<=q:=by omega
   have E8:=hf.size;have HP:Hid (p=s.length - 1 - i):=hd' hp;rcases Nat.mod_two_eq_zero_or_one i with hm|hm
   ·(have e2:(i:Int).tmod 2=0:=by rw [Int.tmod_eq_emod_of_nonneg (by omega)];omega);(have e4:(i:Int) % 2=0:=by omega);(have iB:l.length=q:=by rw [HL.out];omega);have HST:=hd' (wX (l:=l++[0]) hlt (bX.snoc (by decide)) (by simp;omega) (by rw [i6,HV.out];omega));rw [<- hq,<- hp,hgd] at HST;(have rA:DH (s[p]).toNat i=(s[p]).toNat:=by unfold DH;rw [if_neg (by omega)]);(have rC:(l++[0]).getD q 0=0:=by rw [List.getD_eq_getElem?_getD,<- iB];simp);rw [rA,rC,Nat.zero_add] at HST;have HQ:Hid (q<(l++[0]).length):=hd' (by simp;omega);have jt:Hid ((l++[0]).length=(i+1+1) / 2):=hd' (by simp;omega);have HI:=hd' (fun x hx=>(bX.snoc (x:=0) (by decide)).set q x hx);(have k6:(q:Int)<(l.length:Int)+1:=by omega);have Yn:=hd' rC;(have hln:l.length<=1000:=by omega);clear hgd rA hz hq hp bX HL HV HZ rC iB;generalize s[p]=c at *;have tY:=c.toNat_lt;have eo:=or_none c.toNat tY;have fA:Fr NoB wr (wr.alloc (.cells #[.int .u32 0] 155)):=(Fr.refl _ _).alloc _;have hA:=hu.fr fA;go_upto_region 8 with (at_builtin;go_loud (refine ni rfl _ _ rfl w.heap.size u3 l rfl hA wr.heap.size 0 rfl (kC wr 0) (by omega) (by simp<;>omega) ?_;intro v4 w4 aB hgr));obtain ⟨g,cc,rfl,hg1,Bk,d0,dz,HS⟩:=aB.sto HQ.out;have DI:=hA.grown (hf.trans fA) hgr (Nat.le_refl _);(have d0':w4.cell? ⟨g,q,none⟩=some (.int .u32 0):=by rw [d0,Yn.out];rfl);have kD:=hd' (HS c.toNat);have qA:=hd' (DI.setCell_new (p:=⟨g,q,none⟩) hg1 (dV .u32 c.toNat));(have k7:((l++[0]).length:Int)=(l.length:Int)+1:=by simp);clear HS aB hgr hA fA hu hf DI d0;go_wp2_with fail;go_region;all_goals
     go_wp2_with fail;go_roundw
     case rel=>exact ⟨i+1,_,_,by omega,rfl,hd' (by have:=HP.out;omega),HI.out _ HST.out.2,hd' (by rw [List.length_set];exact jt.out),hd' HST.out.1,World.ownsRow.drew kD.out,qA.out.drew⟩
     case measure=>(simp [intOf]<;>omega)
   ·(have e2:(i:Int).tmod 2=1:=by rw [Int.tmod_eq_emod_of_nonneg (by omega)];omega);(have e4:(i:Int) % 2=1:=by omega);(have tZ:q<l.length:=by rw [HL.out];omega);have UN:l.getD q 0<256:=by
     have:=(yL (l:=l) (i:=i) (by rw [HV.out];exact nW (by omega))).1 hm;rwa [<- hq] at this
    have HST:=hd' (wX (l:=l) hlt bX (by rw [<- hq];exact tZ) HV.out);rw [<- hq,<- hp,hgd] at HST;(have rA:DH (s[p]).toNat i=(s[p]).toNat*256:=by unfold DH;rw [if_pos hm]);rw [rA] at HST;obtain ⟨g,cc,rfl,hg1,Bk,d0,dz,HS⟩:=hu.sto tZ;have HI:=hd' (fun x hx=>bX.set q x hx);have jt:Hid (∀ x:Nat,(l.set q x).length=(i+1+1) / 2):=hd' (fun x=>by rw [List.length_set,HL.out];omega);(have k6:(q:Int)<l.length:=by omega);clear hgd rA hz hq hp bX HL HV HZ tZ hu;generalize s[p]=c at *;generalize l.getD q 0=x0 at *;have tY:=c.toNat_lt;have eo:=UM x0 c.toNat UN tY;have kD:=hd' (HS (x0+c.toNat*256));have qA:=hd' (hf.setCell_new (p:=⟨g,q,none⟩) hg1 (dV .u32 (x0+c.toNat*256)));clear HS hf;generalize x0+c.toNat*256=x1 at *;go_wp2_with fail;go_region;all_goals
     go_wp2_with fail;go_roundw
     case rel=>exact ⟨i+1,_,_,by omega,rfl,hd' (by have:=HP.out;omega),HI.out _ HST.out.2,hd' (jt.out _),hd' HST.out.1,World.ownsRow.drew kD.out,qA.out.drew⟩
     case measure=>(simp [intOf]<;>omega)
  ·obtain rfl:i=s.length:=by omega
   have iB:l.length<=1000:=by rw [HL.out];omega
   have HR:=hd' (ft l u3 wr (hu.num bX (by omega)));have ZC:Hid (ae l=ar s):=hd' (by have:=HV.out;simpa using this);have k9:z<0:=by omega
   clear iB;go_wp2_with (go_at_call 169;((with_reducible refine HR.out.mono ?_);rintro e w1 ⟨v1,rfl,h1,rfl⟩));go_ret;exact ⟨_,rfl,⟨_,h1,ik l,by rw [dY];exact ZC.out⟩,hf⟩
abbrev z3:Array Value := #[.bool false,.slice none 0 0,.slice none 0 0]
theorem ig:(Tryz.prog.info? 120).map (·.size)=some 3:=by kernel_rfl
theorem jB {fn:Func} (h:fn.results = #[.cell 2 120,.tmp 3]) (tmps:Array Value) (w:World) (g:Nat) (v0 v1 v2 v:Value) (hp:tmps.getD 2 undef=.pointer (some ⟨g,0,none⟩)) (hv:tmps.getD 3 undef=v) (hb:Blk w g 120 #[v0,v1,v2]) :
  (results fn tmps).run Tryz.prog w=.ok (.tuple #[.agg #[v0,v1,v2],v]) w:=by
 have ph:tmps[2]?.getD undef=.pointer (some ⟨g,0,none⟩):=by simpa using hp
 have hv':tmps[3]?.getD undef=v:=by simpa using hv
 simp [results,h,ph,hv',asAddr,run_loadVar_row w g 120 120 #[v0,v1,v2] (0,0) _ hb Tryz.underlying120 rfl ig]
theorem cmp_eq (x y:Nat):fp x y=0 ↔ x=y:=by
 unfold fp;by_cases h:x<y
 ·rw [if_pos h];omega
 ·by_cases h2:y<x
  ·rw [if_neg h,if_pos h2];omega
  ·rw [if_neg h,if_neg h2];omega
theorem I2 (u:World):jA (u.alloc (.cells #[.int .u32 3] 155)) (.slice (some ⟨u.heap.size,0,none⟩) 1 1) 3:=
 ⟨[3],dU.iZ (l:=[3]) (c:=1) (Blk.new u 155 #[.int .u32 3]) (fun x hx=>by simp at hx;omega) (by simp) (Nat.le_refl _),fun n hn=>by
  have:n=0:=by simpa using hn.symm
  subst this;decide,rfl⟩
theorem UO {s:Bs} (h:s≠[]):¬ ((⟨s.toArray⟩:ByteArray)=⟨#[]⟩):=fun e=>h (by have:=congrArg (fun b:ByteArray=>b.data.toList) e;simpa using this)
theorem UQ:jL<eC:=by decide +kernel
theorem jA.slv {w:World} {v:Value} {n:Nat} (h:jA w v n):∃ a m c,v=.slice a m c:=by
 obtain ⟨l,h1,_⟩:=h;obtain ⟨a,c,rfl⟩:=h1.sl;exact ⟨_,_,_,rfl⟩
theorem BK {X Y:Bs} (h:¬ (X.length=32/\Y.length=32)):uh X Y=false:=by
 unfold uh;by_cases h1:X.length=32
 ·have h2:¬ Y.length=32:=fun e=>h ⟨h1,e⟩;simp [h2]
 ·simp [h1]
def ZE (r:Bool) (w:World) (e:Ending) (w':World):Prop:=∃ (b ok:Bool) (v1 v2:Value),e=.returned (.tuple #[.agg #[.bool b,v1,v2],.bool ok])/\(ok && !b)=r/\((#[.bool b,v1,v2]:Array Value).all (·.oneCell'))=true/\Fr NoB w w'
theorem I3 (X Y:Bs) (w:World):Calls Tryz.prog 76 #[.agg #[.string ⟨X.toArray⟩,.string ⟨Y.toArray⟩]] w (ZE (uh X Y) w):=by
 have ZF:(⟨X.toArray⟩:ByteArray).size=X.length:=by show X.toArray.size=_;simp
 have ZG:(⟨Y.toArray⟩:ByteArray).size=Y.length:=by show Y.toArray.size=_;simp
 obtain ⟨res,aH⟩:∃ r,r=uh X Y:=⟨_,rfl⟩;rw [<- aH];have bV:=hd' aH;clear aH;have il:(z3.all (·.oneCell'))=true:=by simp [Value.oneCell']
 have PK:((#[.bool true,.slice none 0 0,.slice none 0 0]:Array Value).all (·.oneCell'))=true:=by simp [Value.oneCell']
 go_enter Tryz.func76,Tryz.ntmps76;go_upto_region 1 with fail;have b0:Blk ((w.alloc (.cells #[.string ⟨X.toArray⟩,.string ⟨Y.toArray⟩] 25)).alloc (.cells z3 120)) w.heap.size 25 #[.string ⟨X.toArray⟩,.string ⟨Y.toArray⟩]:=(Blk.new w _ _).alloc _;have bP:Blk ((w.alloc (.cells #[.string ⟨X.toArray⟩,.string ⟨Y.toArray⟩] 25)).alloc (.cells z3 120)) (w.heap.size+1) 120 z3:=by
  have:=Blk.new (w.alloc (.cells #[.string ⟨X.toArray⟩,.string ⟨Y.toArray⟩] 25)) 120 z3;simpa using this
 have f0:Fr NoB w ((w.alloc (.cells #[.string ⟨X.toArray⟩,.string ⟨Y.toArray⟩] 25)).alloc (.cells z3 120)):=((Fr.refl _ _).alloc _).alloc _;generalize (w.alloc (.cells #[.string ⟨X.toArray⟩,.string ⟨Y.toArray⟩] 25)).alloc (.cells z3 120)=W at *;have q0:W.cell? ⟨w.heap.size,0,none⟩=some (.string ⟨X.toArray⟩):=(b0.cell 0).trans rfl;have q1:W.cell? ⟨w.heap.size,1,none⟩=some (.string ⟨Y.toArray⟩):=(b0.cell 1).trans rfl;have hG:w.heap.size<=w.heap.size+1:=Nat.le_succ _;have HNO:Hid (res=false->Fr NoB w (W.setRow (w.heap.size+1) z3)):=hd' (fun _=>f0.setRow (w.heap.size+1) _ (Or.inl hG));by_cases hX:X=[]
 ·have hr:res=false:=by rw [bV.out];exact BK (fun h=>by rw [hX] at h;simp at h)
  by_cases hY:Y=[]
  ·subst hX;subst hY;go_wp2_with (refine wpList_store_row rfl 120 _ _ rfl (w.heap.size+1) #[.bool true,.slice none 0 0,.slice none 0 0] rfl rfl 120 z3 bP ig rfl PK ?_);exact bodyPost_ret (jB rfl _ _ (w.heap.size+1) _ _ _ (.bool true) rfl rfl (bP.setRow #[.bool true,.slice none 0 0,.slice none 0 0])) rfl ⟨true,true,_,_,rfl,by rw [hr];rfl,PK,f0.setRow (w.heap.size+1) _ (Or.inl hG)⟩
  ·have h2:Y.isEmpty=false:=by cases Y<;>simp_all
   subst hX;go_wp2_with (refine wpList_store_row rfl 120 _ _ rfl (w.heap.size+1) z3 rfl rfl 120 z3 bP ig rfl il ?_);exact bodyPost_ret (jB rfl _ _ (w.heap.size+1) _ _ _ (.bool false) rfl rfl (bP.setRow z3)) rfl ⟨false,false,_,_,rfl,by rw [hr];rfl,il,f0.setRow (w.heap.size+1) _ (Or.inl hG)⟩
 ·have h1:=UO hX;by_cases I4:X.length=32;rotate_left
  ·have hr:res=false:=by rw [bV.out];exact BK (fun h=>I4 h.1)
   have k1:¬ (X.length:Int)=32:=by omega
   go_wp2_with (refine wpList_store_row rfl 120 _ _ rfl (w.heap.size+1) z3 rfl rfl 120 z3 bP ig rfl il ?_);exact bodyPost_ret (jB rfl _ _ (w.heap.size+1) _ _ _ (.bool false) rfl rfl (bP.setRow z3)) rfl ⟨false,false,_,_,rfl,by rw [hr];rfl,il,f0.setRow (w.heap.size+1) _ (Or.inl hG)⟩
  ·by_cases QK:Y.length=32;rotate_left
   ·(have hr:res=false:=by rw [bV.out];exact BK (fun h=>QK h.2));(have k1:(X.length:Int)=32:=by omega);(have k2:¬ (Y.length:Int)=32:=by omega);clear I4;go_wp2_with (refine wpList_store_row rfl 120 _ _ rfl (w.heap.size+1) z3 rfl rfl 120 z3 bP ig rfl il ?_);exact bodyPost_ret (jB rfl _ _ (w.heap.size+1) _ _ _ (.bool false) rfl rfl (bP.setRow z3)) rfl ⟨false,false,_,_,rfl,by rw [hr];rfl,il,f0.setRow (w.heap.size+1) _ (Or.inl hG)⟩
   ·have M5:Hid (res=(decide (ar X<pP)&&decide (ar Y<pP)&&decide (ar Y*ar Y % pP=lD (ar X)))):=hd' (by rw [bV.out,uh,ZH,decide_eq_true I4,decide_eq_true QK,Bool.true_and,Bool.true_and]);have KX:=hd' (fun u=>rz X u (by omega));have KY:=hd' (fun u=>rz Y u (by omega));(have k1:(X.length:Int)=32:=by omega);(have k2:(Y.length:Int)=32:=by omega);clear I4 QK bV;go_upto_region 5 with fail;have bu:Hid (∀ u,Fr NoB W u->(fun w'=>w'.cell? ⟨w.heap.size,0,none⟩=some (.string ⟨X.toArray⟩)/\w'.cell? ⟨w.heap.size,1,none⟩=some (.string ⟨Y.toArray⟩)) u):=hd' (fun u fu=>⟨fu.eD q0,fu.eD q1⟩);clear b0 h1 k1 k2 ZF ZG;go_region_held3 (fun w'=>w'.cell? ⟨w.heap.size,0,none⟩=some (.string ⟨X.toArray⟩)/\w'.cell? ⟨w.heap.size,1,none⟩=some (.string ⟨Y.toArray⟩)) (first|(with_reducible exact bu.out _ t2)|(with_reducible exact bu.out _ t1)|go_keep) (first|(go_at_call 121;(with_reducible refine (KX.out _).mono ?_);rintro er v1 ⟨vx,rfl,nx,fy⟩;(with_reducible have t1:Fr NoB W v1:=(Fr.refl NoB W).drew.trans fy))|(go_at_call 121;(with_reducible refine (KY.out _).mono ?_);rintro er v2 ⟨vy,rfl,ny,i7⟩;(with_reducible have t2:Fr NoB W v2:=t1.trans i7)));have f:=f0.trans t2;have ZI:=nx.fr i7;have bQ:=t2.blk bP (fun e=>e);clear bu KX KY q0 q1 fy t1 i7 nx bP f0 t2 HNO;generalize ar X=x at *;generalize ar Y=y at *;obtain ⟨ax,mx,cx,rfl⟩:=ZI.slv;obtain ⟨ay,my,cy,rfl⟩:=ny.slv;have HX:=hd' ZI;have HY:=hd' ny;have HM:=hd' mf;obtain ⟨z1,hz1⟩:∃ z,z=fp x pP:=⟨_,rfl⟩;obtain ⟨z2,hz2⟩:∃ z,z=fp y pP:=⟨_,rfl⟩;have Bl:Hid (∀ u vm,Fr NoB v2 u->dU .u32 u vm pL->Calls Tryz.prog 122 #[.slice ax mx cx,vm] u fun e w'=>e=.returned (.int .i64 z1)/\Fr NoB u w'):=hd' (fun u vm fu hm=>by
     rw [hz1];exact QJ (HX.out.fr fu) ⟨pL,hm,I0,po⟩)
    have E9:Hid (∀ u vm,Fr NoB v2 u->dU .u32 u vm pL->Calls Tryz.prog 122 #[.slice ay my cy,vm] u fun e w'=>e=.returned (.int .i64 z2)/\Fr NoB u w'):=hd' (fun u vm fu hm=>by
     rw [hz2];exact QJ (HY.out.fr fu) ⟨pL,hm,I0,po⟩)
    have g1:=wY x pP;have g2:=wY y pP;rw [<- hz1] at g1;rw [<- hz2] at g2;clear ZI ny hz1 hz2;by_cases hx:x<pP;rotate_left
    ·have k1:(0:Int)<=z1:=g1.2 (by omega);(have hr:res=false:=by rw [M5.out];simp [hx]);clear g1 g2;go_wp2_with (first|(have tk:=t6;refine wpList_store_row rfl 120 _ _ rfl (w.heap.size+1) z3 rfl rfl 120 z3 (t6.blk bQ (fun e=>e)) ig rfl il ?_)|(go_at_call 123;((with_reducible refine (HM.out _).mono ?_);rintro e w5 ⟨vm,rfl,nm,t5⟩))|(go_at_call 122;((with_reducible refine (Bl.out _ _ t5 nm).mono ?_);rintro e w6 ⟨rfl,M6⟩;have t6:=t5.trans M6)));exact bodyPost_ret (jB rfl _ _ (w.heap.size+1) _ _ _ (.bool false) rfl rfl ((t6.blk bQ (fun e=>e)).setRow z3)) rfl ⟨false,false,_,_,rfl,by rw [hr];rfl,il,(f.trans t6).setRow (w.heap.size+1) _ (Or.inl hG)⟩
    ·(have k1:¬ (0:Int)<=z1:=fun h=>by have:=g1.1 h;omega);by_cases hy:y<pP;rotate_left
     ·have k2:(0:Int)<=z2:=g2.2 (by omega);(have hr:res=false:=by rw [M5.out];simp [hy]);clear g1 g2;go_wp2_with (first|(have tk:=t8;refine wpList_store_row rfl 120 _ _ rfl (w.heap.size+1) z3 rfl rfl 120 z3 (t8.blk bQ (fun e=>e)) ig rfl il ?_)|(have tk:=t7;go_at_call 122;((with_reducible refine (E9.out _ _ t7 Yo).mono ?_);rintro e w8 ⟨rfl,Yp⟩;have t8:=t7.trans Yp))|(have tk:=t6;go_at_call 123;((with_reducible refine (HM.out _).mono ?_);rintro e w7 ⟨vm2,rfl,Yo,Yq⟩;have t7:=t6.trans Yq))|(go_at_call 123;((with_reducible refine (HM.out _).mono ?_);rintro e w5 ⟨vm,rfl,nm,t5⟩))|(go_at_call 122;((with_reducible refine (Bl.out _ _ t5 nm).mono ?_);rintro e w6 ⟨rfl,M6⟩;have t6:=t5.trans M6)));exact bodyPost_ret (jB rfl _ _ (w.heap.size+1) _ _ _ (.bool false) rfl rfl ((t8.blk bQ (fun e=>e)).setRow z3)) rfl ⟨false,false,_,_,rfl,by rw [hr];rfl,il,(f.trans t8).setRow (w.heap.size+1) _ (Or.inl hG)⟩
     ·(have k2:¬ (0:Int)<=z2:=fun h=>by have:=g2.1 h;omega);have HR3:Hid (res=decide (y*y % pP=lD x)):=hd' (by rw [M5.out,decide_eq_true hx,decide_eq_true hy];rfl);have ja:x<eC:=Nat.lt_trans hx yI;have pj:y<eC:=Nat.lt_trans hy yI;have HT:=hd' (fun u va vb a b (ha:jA u va a) (hb:jA u vb b) h1 h2=>yJ ha hb h1 h2);have HMi:=hd' (fun u va vb a b (ha:jA u va a) (hb:jA u vb b) h1 h2=>yK ha hb h1 h2);have HPl:=hd' (fun u va vb a b (ha:jA u va a) (hb:jA u vb b) h1 h2=>BJ ha hb h1 h2);have HBc:=hd' MZ;have HCM:=hd' (fun u va vb a b (ha:jA u va a) (hb:jA u vb b)=>QJ ha hb);have Yr:=hd' ja;have Ys:=hd' pj;clear g1 g2 hx hy M5 ja pj;go_upto_region 8 with (first|(have tk:=t7;go_at_call 122;((with_reducible refine (E9.out _ _ t7 Yo).mono ?_);rintro e w8 ⟨rfl,Yp⟩;have t8:=t7.trans Yp))|(have tk:=t6;go_at_call 123;((with_reducible refine (HM.out _).mono ?_);rintro e w7 ⟨vm2,rfl,Yo,Yq⟩;have t7:=t6.trans Yq))|(go_at_call 123;((with_reducible refine (HM.out _).mono ?_);rintro e w5 ⟨vm,rfl,nm,t5⟩))|(go_at_call 122;((with_reducible refine (Bl.out _ _ t5 nm).mono ?_);rintro e w6 ⟨rfl,M6⟩;have t6:=t5.trans M6)));have hX8:=HX.out.fr t8;have hY8:=HY.out.fr t8;have QL:=hd' hX8;have HY8:=hd' hY8;have F8:=f.trans t8;have b8:=t8.blk bQ (fun e=>e);clear t5 t6 t7 t8 M6 Yq Yp nm Yo bQ f HX HY Bl E9 hX8 hY8 k1 k2;go_upto_region 9 with (first|(have tk:=n5;go_at_call 124;((with_reducible refine (HPl.out _ _ _ _ _ (n4.fr r5) n5 (nU _) UQ).mono ?_);rintro e ZJ ⟨Ue,rfl,n6,r6⟩))|(have tk:=n4;go_at_call 127;((with_reducible refine (HBc.out _).mono ?_);rintro e ZK ⟨v15,rfl,n5,r5⟩))|(have tk:=n3;go_at_call 125;((with_reducible refine (HMi.out _ _ _ _ _ (n2.fr r3) n3 (nU _) (nU _)).mono ?_);rintro e w14 ⟨v14,rfl,n4,r4⟩))|(have tk:=n2;go_at_call 126;((with_reducible refine (HT.out _ _ _ _ _ (I2 w12) (QL.out.fr ((r1.trans r2).alloc _)) (by decide) Yr.out).mono ?_);rintro e w13 ⟨v13,rfl,n3,r3'⟩;have r3:=((Fr.refl NoB w12).alloc _).trans r3'))|(have tk:=n1;go_at_call 126;((with_reducible refine (HT.out _ _ _ _ _ (QL.out.fr r1) n1 Yr.out (nU _)).mono ?_);rintro e w12 ⟨v12,rfl,n2,r2⟩))|(go_at_call 126;((with_reducible refine (HT.out _ _ _ _ _ QL.out QL.out Yr.out Yr.out).mono ?_);rintro e w11 ⟨v11,rfl,n1,r1⟩)));have F9:=((((r1.trans r2).trans r3).trans r4).trans r5).trans r6;have Yt:=hd' (HY8.out.fr F9);have b9:=F9.blk b8 (fun e=>e);have FF:=F8.trans F9;have HR6:=hd' n6;clear n1 n2 n3 n4 n5 n6 r1 r2 r3 r3' r4 r5 r6 QL HY8 F8 F9 b8;obtain ⟨zq,ZL⟩:∃ z,z=fp (y*y % pP) (lD x):=⟨_,rfl⟩;have HZ:=cmp_eq (y*y % pP) (lD x);rw [<- ZL] at HZ;have HCE:Hid (∀ u va,jA u va (y*y % pP)->Fr NoB ZJ u->Calls Tryz.prog 122 #[va,Ue] u fun e w'=>e=.returned (.int .i64 zq)/\Fr NoB u w'):=hd' (fun u va h1 h2=>by
       rw [ZL];exact HCM.out u va Ue _ _ h1 (HR6.out.fr h2))
      (have DJ:((#[.bool false,.slice ax mx cx,.slice ay my cy]:Array Value).all (·.oneCell'))=true:=by simp [Value.oneCell']);clear ZL;by_cases hq:y*y % pP=lD x
      ·(have hr:res=true:=by rw [HR3.out,decide_eq_true hq]);obtain rfl:=HZ.2 hq;clear HZ hq;go_wp2_with (first|(have tk:=r8;refine wpList_store_row rfl 120 _ _ rfl (w.heap.size+1) #[.bool false,.slice ax mx cx,.slice ay my cy] rfl rfl 120 z3 ((r7.trans r8).blk b9 (fun e=>e)) ig rfl DJ ?_)|(go_at_call 126;((with_reducible refine (HT.out _ _ _ _ _ Yt.out Yt.out Ys.out Ys.out).mono ?_);rintro e w17 ⟨v17,rfl,n7,r7⟩))|(go_at_call 122;((with_reducible refine (HCE.out _ _ n7 r7).mono ?_);rintro e w18 ⟨rfl,r8⟩)));exact bodyPost_ret (jB rfl _ _ (w.heap.size+1) _ _ _ (.bool true) rfl rfl (((r7.trans r8).blk b9 (fun e=>e)).setRow #[.bool false,.slice ax mx cx,.slice ay my cy])) rfl ⟨false,true,_,_,rfl,by rw [hr];rfl,DJ,(FF.trans (r7.trans r8)).setRow (w.heap.size+1) _ (Or.inl hG)⟩
      ·(have hr:res=false:=by rw [HR3.out,decide_eq_false hq]);have hz0:¬ zq=0:=fun e=>hq (HZ.1 e);clear HZ hq;go_wp2_with (first|(have tk:=r8;refine wpList_store_row rfl 120 _ _ rfl (w.heap.size+1) #[.bool false,.slice ax mx cx,.slice ay my cy] rfl rfl 120 z3 ((r7.trans r8).blk b9 (fun e=>e)) ig rfl DJ ?_)|(go_at_call 126;((with_reducible refine (HT.out _ _ _ _ _ Yt.out Yt.out Ys.out Ys.out).mono ?_);rintro e w17 ⟨v17,rfl,n7,r7⟩))|(go_at_call 122;((with_reducible refine (HCE.out _ _ n7 r7).mono ?_);rintro e w18 ⟨rfl,r8⟩)));exact bodyPost_ret (jB rfl _ _ (w.heap.size+1) _ _ _ (.bool (zq==0)) rfl rfl (((r7.trans r8).blk b9 (fun e=>e)).setRow #[.bool false,.slice ax mx cx,.slice ay my cy])) rfl ⟨false,zq==0,_,_,rfl,by rw [hr];simp [hz0],DJ,(FF.trans (r7.trans r8)).setRow (w.heap.size+1) _ (Or.inl hG)⟩
theorem yM (X Y:Bs) (w:World):Calls Tryz.prog 39 #[.agg #[.string ⟨X.toArray⟩,.string ⟨Y.toArray⟩]] w fun e w'=>e=.returned (.bool (uh X Y))/\Fr NoB w w':=by
 have b0:=Blk.new w 25 #[.string ⟨X.toArray⟩,.string ⟨Y.toArray⟩];have f0:Fr NoB w (w.alloc (.cells #[.string ⟨X.toArray⟩,.string ⟨Y.toArray⟩] 25)):=(Fr.refl _ _).alloc _;have HI:=hd' (fun u=>I3 X Y u);generalize uh X Y=res at *;go_enter Tryz.func39,Tryz.ntmps39;go_upto_region 1 with fail;generalize w.alloc (.cells #[.string ⟨X.toArray⟩,.string ⟨Y.toArray⟩] 25)=W at *;have q0:W.cell? ⟨w.heap.size,0,none⟩=some (.string ⟨X.toArray⟩):=(b0.cell 0).trans rfl;have q1:W.cell? ⟨w.heap.size,1,none⟩=some (.string ⟨Y.toArray⟩):=(b0.cell 1).trans rfl;clear b0;go_upto_region 2 with (first|(go_at_call 76;(with_reducible refine (HI.out _).mono ?_);rintro e w1 ⟨b,ok,v1,v2,rfl,hr,dw,f1⟩;have b3:=Blk.new w1 120 z3)|(refine wpList_store_row rfl 120 _ _ rfl w1.heap.size #[.bool b,v1,v2] rfl rfl 120 z3 b3 ig rfl dw ?_));have F:=f0.trans (f1.trans (((Fr.refl NoB w1).alloc (.cells z3 120)).setRow w1.heap.size #[.bool b,v1,v2] (Or.inl (Nat.le_refl _))));have d0:((w1.alloc (.cells z3 120)).setRow w1.heap.size #[.bool b,v1,v2]).cell? ⟨w1.heap.size,0,none⟩=some (.bool b):=((b3.setRow #[.bool b,v1,v2]).cell 0).trans rfl;clear b3 f1 f0 q0 q1;generalize (w1.alloc (.cells z3 120)).setRow w1.heap.size #[.bool b,v1,v2]=W2 at *;subst hr;cases ok with
 | false=>
  go_wp2_with fail;go_ret;exact ⟨rfl,F⟩
 | true=>
  cases b with
  | false=>
   go_wp2_with fail;go_ret;exact ⟨rfl,F⟩
  | true=>
   go_wp2_with fail;go_ret;exact ⟨rfl,F⟩
end Go.Proofs.YtbifjamddbpcjaaGreatDoor
