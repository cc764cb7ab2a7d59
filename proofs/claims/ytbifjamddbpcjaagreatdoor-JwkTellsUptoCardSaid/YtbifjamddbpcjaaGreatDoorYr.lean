/- Keys, the program's: rsa.Check. -/
import Derived.Test.YtbifjamddbpcjaaGreatDoorLib
import Derived.Test.YtbifjamddbpcjaaGreatDoorEv
namespace Go.Proofs.YtbifjamddbpcjaaGreatDoor
set_option maxRecDepth 100000
set_option maxHeartbeats 25600000
open Go.RowKit
theorem Fa (s:Bs):(rD s).length<=s.length:=(List.dropWhile_sublist _).length_le
theorem Fb (s:Bs) (w:World):Calls Tryz.prog 161 #[.string ⟨s.toArray⟩] w fun e w'=>e=.returned (.string ⟨(rD s).toArray⟩)/\Fr NoB w w':=by
 go_enter Tryz.func161,Tryz.ntmps161;go_wp2_with (go_at_call 173;(with_reducible refine (kH s [0] _ (by decide) (by decide)).mono ?_);rintro e w1 ⟨rfl,f1⟩);go_ret;exact ⟨rfl,f1⟩
theorem uM (s:Bs) (w:World) (hl:s.length<=4398046511104):Calls Tryz.prog 117 #[.string ⟨s.toArray⟩] w fun e w'=>e=.returned (.int .i64 (je s))/\Fr NoB w w':=by
 have HT:=hd' (fun u=>Fb s u);have HB:Hid (je s=match rD s with | []=>0|c::r=>8*((c::r).length:Int) - (8 - (Lib.bitLen c.toNat:Int))):=hd' rfl;have Bm:=Fa s;generalize je s=res at *;cases ht:rD s with
 | nil=>
  rw [ht] at HT HB;go_enter Tryz.func117,Tryz.ntmps117;go_wp2_with (go_at_call 161;(with_reducible refine (HT.out _).mono ?_);rintro e w1 ⟨rfl,f1⟩);go_ret;exact ⟨by rw [HB.out];rfl,f1⟩
 | cons c r=>
  rw [ht] at HT HB Bm;have hb8:=Lib.bitLen_le8 ⟨c.toNat,c.toNat_lt⟩;simp only at hb8;have HL:Hid (∀ u,Calls Tryz.prog 162 #[.int .u8 (c.toNat:Int)] u fun e w'=>e=.returned (.int .i64 (8 - (Lib.bitLen c.toNat:Int)))/\w'=u):=hd' (fun u=>by
   have:=Tryz.bits_LeadingZeros8 (c.toNat:Int) u (by omega) (by have:=c.toNat_lt;omega);rwa [Int.toNat_natCast] at this)
  have lF:Hid (res=8*((c::r).length:Int) - (8 - (Lib.bitLen c.toNat:Int))):=hd' HB.out;clear HB ht;generalize Lib.bitLen c.toNat=q at *;have yN:0<(c::r).length:=by simp
  have h0:=aM (c::r) 0 yN;have hz0:(c::r)[0]=c:=rfl;have hne:(c::r).isEmpty=false:=rfl;have hsz:(⟨(c::r).toArray⟩:ByteArray).size=(c::r).length:=rfl;go_enter Tryz.func117,Tryz.ntmps117;go_wp2_with (first|(go_at_call 161;(with_reducible refine (HT.out _).mono ?_);rintro e w1 ⟨rfl,f1⟩)|(go_at_call 162;(with_reducible refine (HL.out _).mono ?_);rintro e w2 ⟨rfl,rfl⟩));go_ret;refine ⟨?_,f1⟩;rw [lF.out];refine iJ ?_;show wrap64 (wrap64 (8*((r.length:Int)+1)) - (8 - (q:Int)))=_;rw [List.length_cons] at *;unfold wrap64;omega
theorem xe (n e:Bs) (w:World) (hn:n.length<=4398046511104) (he:e.length<=4398046511104) :
  Calls Tryz.prog 69 #[.agg #[.string ⟨n.toArray⟩,.string ⟨e.toArray⟩]] w fun r w'=>r=.returned (.int .i64 (if pr n e then 0 else 40))/\Fr NoB w w':=by
 have KN:=hd' (fun u=>uM n u hn);have KE:=hd' (fun u=>uM e u he);have ON:=hd' (fun u=>DL n u hn);have OE:=hd' (fun u=>DL e u he);obtain ⟨res,aH⟩:∃ r:Int,r=if pr n e then 0 else 40:=⟨_,rfl⟩
 rw [<- aH];have bV:Hid (res=if (rE n&&rE e&&decide (512<=je n)&&decide (je n<=2048)&&decide (2<=je e)&&decide (je e<=32)) then 0 else 40):=hd' aH;clear aH;generalize rE n=on at *;generalize rE e=oe at *;generalize je n=bn at *;generalize je e=be at *;have b0:=Blk.new w 23 #[.string ⟨n.toArray⟩,.string ⟨e.toArray⟩];have f0:Fr NoB w (w.alloc (.cells #[.string ⟨n.toArray⟩,.string ⟨e.toArray⟩] 23)):=(Fr.refl _ _).alloc _;go_enter Tryz.func69,Tryz.ntmps69;go_upto_region 2 with fail;generalize w.alloc (.cells #[.string ⟨n.toArray⟩,.string ⟨e.toArray⟩] 23)=W at *;have q0:W.cell? ⟨w.heap.size,0,none⟩=some (.string ⟨n.toArray⟩):=(b0.cell 0).trans rfl;have q1:W.cell? ⟨w.heap.size,1,none⟩=some (.string ⟨e.toArray⟩):=(b0.cell 1).trans rfl;have bu:Hid (∀ u,Fr NoB W u->(fun w'=>w'.cell? ⟨w.heap.size,0,none⟩=some (.string ⟨n.toArray⟩)/\w'.cell? ⟨w.heap.size,1,none⟩=some (.string ⟨e.toArray⟩)) u):=hd' (fun u fu=>⟨fu.eD q0,fu.eD q1⟩);clear b0;go_region_held3 (fun w'=>w'.cell? ⟨w.heap.size,0,none⟩=some (.string ⟨n.toArray⟩)/\w'.cell? ⟨w.heap.size,1,none⟩=some (.string ⟨e.toArray⟩)) (first|(with_reducible exact bu.out _ t2)|(with_reducible exact bu.out _ t1)|go_keep) (first|(go_at_call 117;(with_reducible refine (KN.out _).mono ?_);rintro e v1 ⟨rfl,fy⟩;(with_reducible have t1:Fr NoB W v1:=(Fr.refl NoB W).drew.trans fy))|(go_at_call 117;(with_reducible refine (KE.out _).mono ?_);rintro e v2 ⟨rfl,i7⟩;(with_reducible have t2:Fr NoB W v2:=t1.trans i7)));have f:=f0.trans t2;obtain ⟨c0,c1⟩:=bu.out _ t2;clear bu KN KE q0 q1 f0 t1 t2 fy i7;cases on with
 | false=>
  go_wp2_with (first|(go_at_call 116;(with_reducible refine (ON.out _).mono ?_);rintro e w3 ⟨rfl,rfl⟩)|(go_at_call 116;(with_reducible refine (OE.out _).mono ?_);rintro e w3 ⟨rfl,rfl⟩));all_goals (go_ret;exact ⟨by rw [bV.out];first|rfl|(simp;done)|(simp;intros;omega),f⟩)
 | true=>
  cases oe with
  | false=>
   go_wp2_with (first|(go_at_call 116;(with_reducible refine (ON.out _).mono ?_);rintro e w3 ⟨rfl,rfl⟩)|(go_at_call 116;(with_reducible refine (OE.out _).mono ?_);rintro e w3 ⟨rfl,rfl⟩));all_goals (go_ret;exact ⟨by rw [bV.out];first|rfl|(simp;done)|(simp;intros;omega),f⟩)
  | true=>
   by_cases h1:bn<512
   ·(have h1':¬ 512<=bn:=by omega);go_wp2_with (first|(go_at_call 116;(with_reducible refine (ON.out _).mono ?_);rintro e w3 ⟨rfl,rfl⟩)|(go_at_call 116;(with_reducible refine (OE.out _).mono ?_);rintro e w3 ⟨rfl,rfl⟩));all_goals (go_ret;exact ⟨by rw [bV.out];first|rfl|(simp;done)|(simp;intros;omega),f⟩)
   ·(have h1':512<=bn:=by omega);by_cases h2:2048<bn
    ·(have h2':¬ bn<=2048:=by omega);go_wp2_with (first|(go_at_call 116;(with_reducible refine (ON.out _).mono ?_);rintro e w3 ⟨rfl,rfl⟩)|(go_at_call 116;(with_reducible refine (OE.out _).mono ?_);rintro e w3 ⟨rfl,rfl⟩));all_goals (go_ret;exact ⟨by rw [bV.out];first|rfl|(simp;done)|(simp;intros;omega),f⟩)
    ·(have h2':bn<=2048:=by omega);by_cases h3:be<2
     ·(have ZM:¬ 2<=be:=by omega);go_wp2_with (first|(go_at_call 116;(with_reducible refine (ON.out _).mono ?_);rintro e w3 ⟨rfl,rfl⟩)|(go_at_call 116;(with_reducible refine (OE.out _).mono ?_);rintro e w3 ⟨rfl,rfl⟩));all_goals (go_ret;exact ⟨by rw [bV.out];first|rfl|(simp;done)|(simp;intros;omega),f⟩)
     ·(have ZM:2<=be:=by omega);by_cases h4:32<be
      ·(have h4':¬ be<=32:=by omega);go_wp2_with (first|(go_at_call 116;(with_reducible refine (ON.out _).mono ?_);rintro e w3 ⟨rfl,rfl⟩)|(go_at_call 116;(with_reducible refine (OE.out _).mono ?_);rintro e w3 ⟨rfl,rfl⟩));all_goals (go_ret;exact ⟨by rw [bV.out];first|rfl|(simp;done)|(simp;intros;omega),f⟩)
      ·(have h4':be<=32:=by omega);go_wp2_with (first|(go_at_call 116;(with_reducible refine (ON.out _).mono ?_);rintro e w3 ⟨rfl,rfl⟩)|(go_at_call 116;(with_reducible refine (OE.out _).mono ?_);rintro e w3 ⟨rfl,rfl⟩));all_goals (go_ret;exact ⟨by rw [bV.out];first|rfl|(simp;done)|(simp;intros;omega),f⟩)
abbrev aR (k:Ky):Array Value := #[.int .i64 k.kty,.string ⟨k.kid.toArray⟩,.string ⟨k.alg.toArray⟩,.string ⟨k.n.toArray⟩,.string ⟨k.e.toArray⟩,.string ⟨k.x.toArray⟩,.string ⟨k.y.toArray⟩,.string ⟨k.sec.toArray⟩]
abbrev lot:Nat:=4398046511104
structure KySm (k:Ky):Prop where
 t:IntOk k.kty
 kid:k.kid.length<=lot
 alg:k.alg.length<=lot
 n:k.n.length<=lot
 e:k.e.length<=lot
 x:k.x.length<=lot
 y:k.y.length<=lot
 sec:k.sec.length<=lot
theorem Fc (k:Ky) (w:World) (eK:KySm k) :
  Calls Tryz.prog 36 #[.agg (aR k)] w fun e w'=>e=.returned (.bool (bN k))/\Fr NoB w w':=by
 obtain ⟨kty,kid,alg,n,e,x,y,sec⟩:=k;obtain ⟨ht,-,-,hn,he,hx,hy,hs⟩:=eK;simp only at ht hn he hx hy hs;have KR:Hid (∀ u,Calls Tryz.prog 69 #[.agg #[.string ⟨n.toArray⟩,.string ⟨e.toArray⟩]] u fun r w'=>r=.returned (.int .i64 (if pr n e then 0 else 40))/\Fr NoB u w'):=hd' (fun u=>xe n e u hn he);have KE:Hid (∀ u,Calls Tryz.prog 70 #[.agg #[.string ⟨x.toArray⟩,.string ⟨y.toArray⟩]] u fun r w'=>r=.returned (.int .i64 (if uh x y then 0 else 50))/\Fr NoB u w'):=hd' (fun u=>yO x y u);obtain ⟨res,aH⟩:∃ r,r=bN ⟨kty,kid,alg,n,e,x,y,sec⟩:=⟨_,rfl⟩;rw [<- aH];have bV:=hd' aH;clear aH hn he hx hy;have b0:=Blk.new w 27 (aR ⟨kty,kid,alg,n,e,x,y,sec⟩);have f0:Fr NoB w (w.alloc (.cells (aR ⟨kty,kid,alg,n,e,x,y,sec⟩) 27)):=(Fr.refl _ _).alloc _;go_enter Tryz.func36,Tryz.ntmps36;go_upto_region 1 with fail;generalize w.alloc (.cells (aR ⟨kty,kid,alg,n,e,x,y,sec⟩) 27)=W at *;have q0:W.cell? ⟨w.heap.size,0,none⟩=some (.int .i64 kty):=(b0.cell 0).trans rfl;have q3:W.cell? ⟨w.heap.size,3,none⟩=some (.string ⟨n.toArray⟩):=(b0.cell 3).trans rfl;have q4:W.cell? ⟨w.heap.size,4,none⟩=some (.string ⟨e.toArray⟩):=(b0.cell 4).trans rfl;have q5:W.cell? ⟨w.heap.size,5,none⟩=some (.string ⟨x.toArray⟩):=(b0.cell 5).trans rfl;have q6:W.cell? ⟨w.heap.size,6,none⟩=some (.string ⟨y.toArray⟩):=(b0.cell 6).trans rfl;have q7:W.cell? ⟨w.heap.size,7,none⟩=some (.string ⟨sec.toArray⟩):=(b0.cell 7).trans rfl;have hsz:(⟨sec.toArray⟩:ByteArray).size=sec.length:=rfl;clear b0;by_cases e0:kty=0
 ·subst e0;by_cases hX:x=[]
  ·subst hX;by_cases hY:y=[]
   ·subst hY;by_cases hS:sec=[]
    ·subst hS;cases hb:pr n e with
     | false=>
      rw [hb] at KR;go_wp2_with (go_at_call 69;(with_reducible refine (KR.out _).mono ?_);rintro e w1 ⟨rfl,f1⟩);go_ret;exact ⟨by rw [bV.out];simp [bN,hb],f0.trans f1⟩
     | true=>
      rw [hb] at KR;go_wp2_with (go_at_call 69;(with_reducible refine (KR.out _).mono ?_);rintro e w1 ⟨rfl,f1⟩);go_ret;exact ⟨by rw [bV.out];simp [bN,hb],f0.trans f1⟩
    ·go_wp2_with fail;go_ret;exact ⟨by rw [bV.out];simp [bN,hS],f0⟩
   ·go_wp2_with fail;go_ret;exact ⟨by rw [bV.out];simp [bN,hY],f0⟩
  ·go_wp2_with fail;go_ret;exact ⟨by rw [bV.out];simp [bN,hX],f0⟩
 ·by_cases e1:kty=1
  ·subst e1;by_cases hX:n=[]
   ·subst hX;by_cases hY:e=[]
    ·subst hY;by_cases hS:sec=[]
     ·subst hS;cases hb:uh x y with
      | false=>
       rw [hb] at KE;go_wp2_with (go_at_call 70;(with_reducible refine (KE.out _).mono ?_);rintro e w1 ⟨rfl,f1⟩);go_ret;exact ⟨by rw [bV.out];simp [bN,hb],f0.trans f1⟩
      | true=>
       rw [hb] at KE;go_wp2_with (go_at_call 70;(with_reducible refine (KE.out _).mono ?_);rintro e w1 ⟨rfl,f1⟩);go_ret;exact ⟨by rw [bV.out];simp [bN,hb],f0.trans f1⟩
     ·go_wp2_with fail;go_ret;exact ⟨by rw [bV.out];simp [bN,hS],f0⟩
    ·go_wp2_with fail;go_ret;exact ⟨by rw [bV.out];simp [bN,hY],f0⟩
   ·go_wp2_with fail;go_ret;exact ⟨by rw [bV.out];simp [bN,hX],f0⟩
  ·by_cases e2:kty=2
   ·subst e2;by_cases hX:n=[]
    ·subst hX;by_cases hY:e=[]
     ·subst hY;by_cases hX:x=[]
      ·subst hX;by_cases hY:y=[]
       ·subst hY;by_cases hS:sec=[]
        ·subst hS;go_wp2_with fail;go_ret;exact ⟨by rw [bV.out];simp [bN],f0⟩
        ·by_cases hl:(sec.length:Int)<=128
         ·go_wp2_with fail;go_ret;exact ⟨by rw [bV.out];simp [bN,hS];omega,f0⟩
         ·go_wp2_with fail;go_ret;exact ⟨by rw [bV.out];simp [bN,hS];omega,f0⟩
       ·go_wp2_with fail;go_ret;exact ⟨by rw [bV.out];simp [bN,hY],f0⟩
      ·go_wp2_with fail;go_ret;exact ⟨by rw [bV.out];simp [bN,hX],f0⟩
     ·go_wp2_with fail;go_ret;exact ⟨by rw [bV.out];simp [bN,hY],f0⟩
    ·go_wp2_with fail;go_ret;exact ⟨by rw [bV.out];simp [bN,hX],f0⟩
   ·go_wp2_with fail;go_ret;exact ⟨by rw [bV.out];simp [bN,e0,e1,e2],f0⟩
theorem kI (k:Ky) (w:World) (eK:KySm k) :
  Calls Tryz.prog 12 #[.agg (aR k)] w fun e w'=>e=.returned (.int .i64 (if cI k then 0 else 100))/\Fr NoB w w':=by
 have KW:=hd' (fun u=>Fc k u eK);have K1:=hd' (fun u=>yP k.kid u eK.kid);have K2:=hd' (fun u=>yP k.alg u eK.alg);obtain ⟨res,aH⟩:∃ r:Int,r=if cI k then 0 else 100:=⟨_,rfl⟩
 rw [<- aH];have HK:Hid (res=if (fK k.kid&&fK k.alg&&bN k) then 0 else 100):=hd' aH;clear aH;generalize bN k=b3 at *;have b0:=Blk.new w 27 (aR k);have f0:Fr NoB w (w.alloc (.cells (aR k) 27)):=(Fr.refl _ _).alloc _;obtain ⟨kty,kid,alg,n,e,x,y,sec⟩:=k;go_enter Tryz.func12,Tryz.ntmps12;go_upto_region 1 with fail;generalize w.alloc (.cells (aR ⟨kty,kid,alg,n,e,x,y,sec⟩) 27)=W at *;have q0:W.cell? ⟨w.heap.size,0,none⟩=some (.int .i64 kty):=(b0.cell 0).trans rfl;have q1:W.cell? ⟨w.heap.size,1,none⟩=some (.string ⟨kid.toArray⟩):=(b0.cell 1).trans rfl;have q2:W.cell? ⟨w.heap.size,2,none⟩=some (.string ⟨alg.toArray⟩):=(b0.cell 2).trans rfl;have q3:W.cell? ⟨w.heap.size,3,none⟩=some (.string ⟨n.toArray⟩):=(b0.cell 3).trans rfl;have q4:W.cell? ⟨w.heap.size,4,none⟩=some (.string ⟨e.toArray⟩):=(b0.cell 4).trans rfl;have q5:W.cell? ⟨w.heap.size,5,none⟩=some (.string ⟨x.toArray⟩):=(b0.cell 5).trans rfl;have q6:W.cell? ⟨w.heap.size,6,none⟩=some (.string ⟨y.toArray⟩):=(b0.cell 6).trans rfl;have q7:W.cell? ⟨w.heap.size,7,none⟩=some (.string ⟨sec.toArray⟩):=(b0.cell 7).trans rfl;clear b0;simp only at K1 K2 HK;generalize fK kid=b1 at *;generalize fK alg=b2 at *;cases b1 with
 | false=>
  go_wp2_with (go_at_call 35;(with_reducible refine (K1.out _).mono ?_);rintro e w1 ⟨rfl,rfl⟩);go_ret;exact ⟨by rw [HK.out];rfl,f0⟩
 | true=>
  cases b2 with
  | false=>
   go_wp2_with (go_at_call 35;first|((with_reducible refine (K1.out _).mono ?_);rintro e w1 ⟨rfl,rfl⟩)|((with_reducible refine (K2.out _).mono ?_);rintro e w1 ⟨rfl,rfl⟩));go_ret;exact ⟨by rw [HK.out];rfl,f0⟩
  | true=>
   cases b3 with
   | false=>
    go_wp2_with (first|(go_at_call 35;first|((with_reducible refine (K1.out _).mono ?_);rintro e w1 ⟨rfl,rfl⟩)|((with_reducible refine (K2.out _).mono ?_);rintro e w1 ⟨rfl,rfl⟩))|(go_at_call 36;(with_reducible refine (KW.out _).mono ?_);rintro e w2 ⟨rfl,f2⟩));go_ret;exact ⟨by rw [HK.out];rfl,f0.trans f2⟩
   | true=>
    go_wp2_with (first|(go_at_call 35;first|((with_reducible refine (K1.out _).mono ?_);rintro e w1 ⟨rfl,rfl⟩)|((with_reducible refine (K2.out _).mono ?_);rintro e w1 ⟨rfl,rfl⟩))|(go_at_call 36;(with_reducible refine (KW.out _).mono ?_);rintro e w2 ⟨rfl,f2⟩));go_ret;exact ⟨by rw [HK.out];rfl,f0.trans f2⟩
end Go.Proofs.YtbifjamddbpcjaaGreatDoor
