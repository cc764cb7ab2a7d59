/- Keys. -/
import Derived.Test.YtbifjamddbpcjaaGreatDoorDj
import Derived.Test.YtbifjamddbpcjaaGreatDoorDf
import Derived.Test.YtbifjamddbpcjaaGreatDoorDk
import Derived.Test.YtbifjamddbpcjaaGreatDoorYr
import Derived.Test.YtbifjamddbpcjaaGreatDoorYf
namespace Go.Proofs.YtbifjamddbpcjaaGreatDoor
set_option maxRecDepth 100000
set_option maxHeartbeats 25600000
open Go.RowKit
theorem vG (s:Bs) (w:World) (hl:s.length<=4398046511104):Calls Tryz.prog 37 #[.string ⟨s.toArray⟩] w fun e w'=>e=.returned (.bool (fK s))/\w'=w:=by
 obtain ⟨res,aH⟩:∃ r,r=fK s:=⟨_,rfl⟩;rw [<- aH];have bV:=hd' aH;clear aH;go_enter Tryz.func37,Tryz.ntmps37;go_wp2_with fail;go_loopw [3] (fun v wr=>∃ m:Nat,m<=s.length/\v=.int .i64 m/\(∀ (j:Nat) c,j<m->s[j]?=some c->Kg c=true)/\wr=w) (fun v _=>s.length - (intOf v).toNat)
 case atStart=>exact ⟨0,Nat.zero_le _,rfl,fun j c h=>by omega,rfl⟩
 case round=>
  obtain ⟨m,hm,rfl,gi,rfl⟩:=hrel;have hsz:(⟨s.toArray⟩:ByteArray).size=s.length:=rfl;by_cases hlt:m<s.length
  ·have k1:(0:Int)<=m:=by omega
   have k2:(m:Int)<s.length:=by omega
   have hg:=aM s m hlt;have HA:=hd' (List.getElem?_eq_getElem hlt);have HOK:=hd' gi;clear gi;generalize s[m]=c at *;have hc:=c.toNat_lt;by_cases h1:(c.toNat:Int)<33
   ·go_wp2_with fail;go_ret;exact ⟨by rw [bV.out,qT HA.out (by unfold Kg;simp;omega)];rfl,rfl⟩
   ·by_cases h2:(126:Int)<c.toNat
    ·go_wp2_with fail;go_ret;exact ⟨by rw [bV.out,qT HA.out (by unfold Kg;simp;omega)];rfl,rfl⟩
    ·go_wp2_with fail;go_roundw
     case rel=>
      refine ⟨m+1,by omega,by simp,fun j x hj hx => ?_,trivial⟩;by_cases hjm:j=m
      ·subst hjm;rw [HA.out] at hx;cases hx;unfold Kg;simp;omega
      ·exact HOK.out j x (by omega) hx
     case measure=>simp [intOf];omega
  ·obtain rfl:m=s.length:=by omega
   have HW:=hd' (zZ gi);clear gi;by_cases h6:(s.length:Int)<=64
   ·go_wp2_with fail;go_ret;exact ⟨by rw [bV.out,HW.out];simp;omega,rfl⟩
   ·go_wp2_with fail;go_ret;exact ⟨by rw [bV.out,HW.out];simp;omega,rfl⟩
theorem Oi (a b c:Bs):((⟨a.toArray⟩:ByteArray)++⟨b.toArray⟩++⟨c.toArray⟩).toList.isEmpty=decide (a++b++c=[]):=by
 rw [sP,sP,ByteArray.toList_eq,ByteArray.toList_eq,ByteArray.toList_eq];cases a<;>cases b<;>cases c<;>simp
theorem V9 (a b c d:Bs):((⟨a.toArray⟩:ByteArray)++⟨b.toArray⟩++⟨c.toArray⟩++⟨d.toArray⟩).toList.isEmpty=decide (a++b++c++d=[]):=by
 rw [sP,sP,sP,ByteArray.toList_eq,ByteArray.toList_eq,ByteArray.toList_eq,ByteArray.toList_eq];cases a<;>cases b<;>cases c<;>cases d<;>simp
structure KyDoc (k:Ky):Prop where
 kid:k.kid.length<=lot
 alg:k.alg.length<=lot
 n:k.n.length<=33554432
 e:k.e.length<=33554432
 x:k.x.length<=33554432
 y:k.y.length<=33554432
 sec:k.sec.length<=33554432
theorem nC (k:Ky) (w:World) (eK:KyDoc k) :
  Calls Tryz.prog 13 #[.agg (aR k)] w fun e w'=>e=.returned (.int .i64 (if cI k then 0 else 100))/\Fr NoB w w':=by
 have K1:=hd' (fun u=>vG k.kid u eK.kid);have K2:=hd' (fun u=>vG k.alg u eK.alg);have KR:=hd' (fun u=>zX k.n k.e u eK.n eK.e);have KE:=hd' (fun u=>yM k.x k.y u);have hs:=eK.sec;have hln:k.n.length<=33554432:=eK.n;have hle:k.e.length<=33554432:=eK.e;have hlx:k.x.length<=33554432:=eK.x;have hly:k.y.length<=33554432:=eK.y;obtain ⟨xL,RW⟩:∃ b,b=cI k:=⟨_,rfl⟩;rw [<- RW];have HK:Hid (xL=((fK k.kid&&fK k.alg) &&
  (if k.kty=0 then pr k.n k.e&&decide (k.x++k.y++k.sec=[])
  else if k.kty=1 then uh k.x k.y&&decide (k.n++k.e++k.sec=[])
  else if k.kty=2 then decide (1<=k.sec.length)&&decide (k.sec.length<=128)&&decide (k.x++k.y++k.n++k.e=[])
  else false))):=hd' (by rw [RW];exact Gm k)
 clear RW eK;have b0:=Blk.new w 27 (aR k);have f0:Fr NoB w (w.alloc (.cells (aR k) 27)):=(Fr.refl _ _).alloc _;obtain ⟨kty,kid,alg,n,e,x,y,sec⟩:=k;simp only at K1 K2 KR KE hs hln hle hlx hly HK;have hsz:(⟨sec.toArray⟩:ByteArray).size=sec.length:=rfl;go_enter Tryz.func13,Tryz.ntmps13;go_upto_region 1 with fail;generalize w.alloc (.cells (aR ⟨kty,kid,alg,n,e,x,y,sec⟩) 27)=W at *;have q0:W.cell? ⟨w.heap.size,0,none⟩=some (.int .i64 kty):=(b0.cell 0).trans rfl;have q1:W.cell? ⟨w.heap.size,1,none⟩=some (.string ⟨kid.toArray⟩):=(b0.cell 1).trans rfl;have q2:W.cell? ⟨w.heap.size,2,none⟩=some (.string ⟨alg.toArray⟩):=(b0.cell 2).trans rfl;have q3:W.cell? ⟨w.heap.size,3,none⟩=some (.string ⟨n.toArray⟩):=(b0.cell 3).trans rfl;have q4:W.cell? ⟨w.heap.size,4,none⟩=some (.string ⟨e.toArray⟩):=(b0.cell 4).trans rfl;have q5:W.cell? ⟨w.heap.size,5,none⟩=some (.string ⟨x.toArray⟩):=(b0.cell 5).trans rfl;have q6:W.cell? ⟨w.heap.size,6,none⟩=some (.string ⟨y.toArray⟩):=(b0.cell 6).trans rfl;have q7:W.cell? ⟨w.heap.size,7,none⟩=some (.string ⟨sec.toArray⟩):=(b0.cell 7).trans rfl;clear b0;generalize fK kid=b1 at *;generalize fK alg=b2 at *;obtain ⟨Qc,RX⟩:∃ b,b=(b1&&b2):=⟨_,rfl⟩;rw [<- RX] at HK;have MN:=hd' RX;clear RX;go_cut [3] (fun v3 wx=>v3=.bool Qc/\wx=W)
 case first=>
  cases b1 with
  | false=>
   go_wp2_with (go_at_call 37;((with_reducible refine (K1.out _).mono ?_);rintro e w1 ⟨rfl,rfl⟩));go_meet;exact ⟨by rw [MN.out];rfl,rfl⟩
  | true=>
   go_wp2_with (go_at_call 37;first|((with_reducible refine (K1.out _).mono ?_);rintro e w1 ⟨rfl,rfl⟩)|((with_reducible refine (K2.out _).mono ?_);rintro e w1 ⟨rfl,rfl⟩));go_meet;exact ⟨by rw [MN.out,Bool.true_and],rfl⟩
 case rest=>
 obtain ⟨rfl,rfl⟩:=hcut;clear MN K1 K2;have HF:Hid (Qc=false->xL=false):=hd' (fun h=>by rw [HK.out,h];rfl);by_cases e0:kty=0
 ·subst e0;have CA:Hid (xL=(Qc&&(pr n e&&decide (x++y++sec=[])))):=hd' HK.out;clear HK;cases Qc with
  | false=>
   have hr:xL=false:=HF.out rfl;subst hr;go_wp2_with fail;go_ret;exact ⟨rfl,f0⟩
  | true=>
   generalize pr n e=rb at *;cases rb with
   | false=>
    have hr:xL=false:=CA.out;subst hr;go_wp2_with (go_at_call 38;((with_reducible refine (KR.out _).mono ?_);rintro e w1 ⟨rfl,f1⟩));go_ret;exact ⟨rfl,f0.trans f1⟩
   | true=>
    by_cases hc:x++y++sec=[]
    ·(have hr:xL=true:=by rw [CA.out,decide_eq_true hc];rfl);have sQ:=Oi x y sec;rw [decide_eq_true hc] at sQ;subst hr;go_wp2_with (go_at_call 38;((with_reducible refine (KR.out _).mono ?_);rintro e w1 ⟨rfl,f1⟩;have c5:=f1.eD q5;have c6:=f1.eD q6;have c7:=f1.eD q7));go_ret;exact ⟨rfl,f0.trans f1⟩
    ·(have hr:xL=false:=by rw [CA.out,decide_eq_false hc];rfl);have sQ:=Oi x y sec;rw [decide_eq_false hc] at sQ;subst hr;go_wp2_with (go_at_call 38;((with_reducible refine (KR.out _).mono ?_);rintro e w1 ⟨rfl,f1⟩;have c5:=f1.eD q5;have c6:=f1.eD q6;have c7:=f1.eD q7));go_ret;exact ⟨rfl,f0.trans f1⟩
 ·by_cases e1:kty=1
  ·subst e1;have CA:Hid (xL=(Qc&&(uh x y&&decide (n++e++sec=[])))):=hd' HK.out;clear HK;cases Qc with
   | false=>
    have hr:xL=false:=HF.out rfl;subst hr;go_wp2_with fail;go_ret;exact ⟨rfl,f0⟩
   | true=>
    generalize uh x y=rb at *;cases rb with
    | false=>
     have hr:xL=false:=CA.out;subst hr;go_wp2_with (go_at_call 39;((with_reducible refine (KE.out _).mono ?_);rintro e w1 ⟨rfl,f1⟩));go_ret;exact ⟨rfl,f0.trans f1⟩
    | true=>
     by_cases hc:n++e++sec=[]
     ·(have hr:xL=true:=by rw [CA.out,decide_eq_true hc];rfl);have sQ:=Oi n e sec;rw [decide_eq_true hc] at sQ;subst hr;go_wp2_with (go_at_call 39;((with_reducible refine (KE.out _).mono ?_);rintro e w1 ⟨rfl,f1⟩;have c3:=f1.eD q3;have c4:=f1.eD q4;have c7:=f1.eD q7));go_ret;exact ⟨rfl,f0.trans f1⟩
     ·(have hr:xL=false:=by rw [CA.out,decide_eq_false hc];rfl);have sQ:=Oi n e sec;rw [decide_eq_false hc] at sQ;subst hr;go_wp2_with (go_at_call 39;((with_reducible refine (KE.out _).mono ?_);rintro e w1 ⟨rfl,f1⟩;have c3:=f1.eD q3;have c4:=f1.eD q4;have c7:=f1.eD q7));go_ret;exact ⟨rfl,f0.trans f1⟩
  ·by_cases e2:kty=2
   ·subst e2;have CA:Hid (xL=(Qc&&(decide (1<=sec.length)&&decide (sec.length<=128)&&decide (x++y++n++e=[])))):=hd' HK.out;clear HK;cases Qc with
    | false=>
     have hr:xL=false:=HF.out rfl;subst hr;go_wp2_with fail;go_ret;exact ⟨rfl,f0⟩
    | true=>
     by_cases h1:1<=sec.length;rotate_left
     ·(have hr:xL=false:=by rw [CA.out,decide_eq_false h1];rfl);(have k1:¬ (1:Int)<=sec.length:=by omega);subst hr;go_wp2_with fail;go_ret;exact ⟨rfl,f0⟩
     ·(have k1:(1:Int)<=sec.length:=by omega);by_cases h2:sec.length<=128;rotate_left
      ·(have hr:xL=false:=by rw [CA.out,decide_eq_false h2];simp);(have k2:¬ (sec.length:Int)<=128:=by omega);subst hr;go_wp2_with fail;go_ret;exact ⟨rfl,f0⟩
      ·(have k2:(sec.length:Int)<=128:=by omega);by_cases hc:x++y++n++e=[]
       ·(have hr:xL=true:=by rw [CA.out,decide_eq_true hc,decide_eq_true h1,decide_eq_true h2];rfl);have sQ:=V9 x y n e;rw [decide_eq_true hc] at sQ;subst hr;go_wp2_with fail;go_ret;exact ⟨rfl,f0⟩
       ·(have hr:xL=false:=by rw [CA.out,decide_eq_false hc];simp);have sQ:=V9 x y n e;rw [decide_eq_false hc] at sQ;subst hr;go_wp2_with fail;go_ret;exact ⟨rfl,f0⟩
   ·(have hr:xL=false:=by rw [HK.out,if_neg e0,if_neg e1,if_neg e2,Bool.and_false]);subst hr;go_wp2_with fail;go_ret;exact ⟨rfl,f0⟩
end Go.Proofs.YtbifjamddbpcjaaGreatDoor
