/- JSON, the document's side: rows of bytes; Quoted, Digits. -/
import Derived.Test.YtbifjamddbpcjaaGreatDoorUp
import Derived.Lib.ItoaLen
namespace Go.Proofs.YtbifjamddbpcjaaGreatDoor
set_option maxRecDepth 100000
set_option maxHeartbeats 25600000
open Go.RowKit
theorem EG (i:Nat) (h:i<16):((⟨#[48,49,50,51,52,53,54,55,56,57,97,98,99,100,101,102]⟩:ByteArray)[i]'h)=iH i.toUInt8:=by
 revert i
 decide
theorem Hl (s:Bs) (m:Nat) (h:m<s.length):(s.take (m+1)).flatMap aK=(s.take m).flatMap aK++aK s[m]:=by
 rw [(List.take_append_getElem h).symm,List.flatMap_append];simp
theorem uC (s:Bs) (m:Nat):((s.take m).flatMap aK).length<=6*s.length:=by
 have h1:=ow (s.take m);have h2:(s.take m).length<=s.length:=by rw [List.length_take];omega
 omega
theorem qo (s:Bs) (w:World) (hl:s.length<=4398046511104):Calls Tryz.prog 109 #[.string ⟨s.toArray⟩] w fun e w'=>∃ v,e=.returned v/\BR w.heap.size w' v (bJ s)/\Fr NoB w w':=by
 have f1:Fr NoB w (w.alloc (.cells #[.int .u8 34] 5)):=(Fr.refl _ _).alloc _;have Sb:BR w.heap.size (w.alloc (.cells #[.int .u8 34] 5)) (.slice (some ⟨w.heap.size,0,none⟩) 1 1) [34]:=BR.first w #[.int .u8 34] [34] rfl (by unfold maxLen;simp)
 go_enter Tryz.func109,Tryz.ntmps109;go_wp2_with fail;go_loopw [3,4] (fun v3 v4 wr=>∃ m:Nat,m<=s.length/\v4=.int .i64 m/\BR w.heap.size wr v3 (34::(s.take m).flatMap aK)/\Fr NoB w wr) (fun _ v4 _=>s.length - (intOf v4).toNat)
 case atStart=>exact ⟨0,Nat.zero_le _,rfl,Sb,f1⟩
 case round=>
  obtain ⟨m,hm,rfl,hown,hf⟩:=hrel;have hle:=uC s m;have hsz:=hf.size;by_cases hlt:m<s.length
  ·have i1:(0:Int)<=m:=by omega
   have i2:(m:Int)<s.length:=by omega
   have HT:=hd' (Hl s m hlt);have hgc:=aM s m hlt;generalize s[m]=c at *;generalize (s.take m).flatMap aK=A at *;have WY:=c.toNat_lt;by_cases S5:c=34
   ·subst S5;have fa:Fr NoB wr (wr.alloc (.cells #[.int .u8 92,.int .u8 34] 5)):=(Fr.refl _ _).alloc _;have dq:=hown.fr fa;go_wp2_with (at_builtin;go_loud (refine dL rfl _ _ rfl w.heap.size u3 _ rfl dq wr.heap.size 2 2 [92,34] rfl rfl (aF wr #[.int .u8 92,.int .u8 34] [92,34] rfl) (by simp;omega) (by simp;omega) ?_;intro v4 w4 aB hgr));go_roundw
    case rel=>exact ⟨m+1,by omega,by simp,by rw [HT.out];simpa [aK] using aB,dq.grown (hf.trans fa) hgr (Nat.le_refl _)⟩
    case measure=>simp [intOf];omega
   by_cases Y6:c=92
   ·subst Y6;have fa:Fr NoB wr (wr.alloc (.cells #[.int .u8 92,.int .u8 92] 5)):=(Fr.refl _ _).alloc _;have dq:=hown.fr fa;go_wp2_with (at_builtin;go_loud (refine dL rfl _ _ rfl w.heap.size u3 _ rfl dq wr.heap.size 2 2 [92,92] rfl rfl (aF wr #[.int .u8 92,.int .u8 92] [92,92] rfl) (by simp;omega) (by simp;omega) ?_;intro v4 w4 aB hgr));go_roundw
    case rel=>exact ⟨m+1,by omega,by simp,by rw [HT.out];simpa [aK] using aB,dq.grown (hf.trans fa) hgr (Nat.le_refl _)⟩
    case measure=>simp [intOf];omega
   by_cases h8:c=8
   ·subst h8;go_wp2_with (at_builtin;go_loud (refine kQ rfl _ _ rfl w.heap.size u3 _ rfl hown [92,98] rfl (by simp;omega) (by omega) ?_;intro v4 w4 aB hgr));go_roundw
    case rel=>exact ⟨m+1,by omega,by simp,by rw [HT.out];simpa [aK] using aB,hown.grown (hf) hgr (Nat.le_refl _)⟩
    case measure=>simp [intOf];omega
   by_cases h9:c=9
   ·subst h9;go_wp2_with (at_builtin;go_loud (refine kQ rfl _ _ rfl w.heap.size u3 _ rfl hown [92,116] rfl (by simp;omega) (by omega) ?_;intro v4 w4 aB hgr));go_roundw
    case rel=>exact ⟨m+1,by omega,by simp,by rw [HT.out];simpa [aK] using aB,hown.grown (hf) hgr (Nat.le_refl _)⟩
    case measure=>simp [intOf];omega
   by_cases yD:c=10
   ·subst yD;go_wp2_with (at_builtin;go_loud (refine kQ rfl _ _ rfl w.heap.size u3 _ rfl hown [92,110] rfl (by simp;omega) (by omega) ?_;intro v4 w4 aB hgr));go_roundw
    case rel=>exact ⟨m+1,by omega,by simp,by rw [HT.out];simpa [aK] using aB,hown.grown (hf) hgr (Nat.le_refl _)⟩
    case measure=>simp [intOf];omega
   by_cases S6:c=12
   ·subst S6;go_wp2_with (at_builtin;go_loud (refine kQ rfl _ _ rfl w.heap.size u3 _ rfl hown [92,102] rfl (by simp;omega) (by omega) ?_;intro v4 w4 aB hgr));go_roundw
    case rel=>exact ⟨m+1,by omega,by simp,by rw [HT.out];simpa [aK] using aB,hown.grown (hf) hgr (Nat.le_refl _)⟩
    case measure=>simp [intOf];omega
   by_cases Y7:c=13
   ·subst Y7;go_wp2_with (at_builtin;go_loud (refine kQ rfl _ _ rfl w.heap.size u3 _ rfl hown [92,114] rfl (by simp;omega) (by omega) ?_;intro v4 w4 aB hgr));go_roundw
    case rel=>exact ⟨m+1,by omega,by simp,by rw [HT.out];simpa [aK] using aB,hown.grown (hf) hgr (Nat.le_refl _)⟩
    case measure=>simp [intOf];omega
   have b34:((c.toNat:Int)==34)=false:=jE 34 (by omega) S5;have b92:((c.toNat:Int)==92)=false:=jE 92 (by omega) Y6;have b8:((c.toNat:Int)==8)=false:=jE 8 (by omega) h8;have b9:((c.toNat:Int)==9)=false:=jE 9 (by omega) h9;have b10:((c.toNat:Int)==10)=false:=jE 10 (by omega) yD;have b12:((c.toNat:Int)==12)=false:=jE 12 (by omega) S6;have b13:((c.toNat:Int)==13)=false:=jE 13 (by omega) Y7;have HQ:Hid (aK c=if c<32 then [92,117,48,48,iH (c / 16),iH (c % 16)] else [c]):=hd' (by simp [aK,S5,Y6,h8,h9,yD,S6,Y7]);clear S5 Y6 h8 h9 yD S6 Y7;by_cases NK:c<32
   ·(have i3:(c.toNat:Int)<32:=by have:=UInt8.lt_iff_toNat_lt.1 NK;simp at this;omega);(have j1:c.toNat<32:=by omega);obtain ⟨hi,lC⟩:∃ x,x=c.toNat / 16:=⟨_,rfl⟩;obtain ⟨lo,cN⟩:∃ x,x=c.toNat % 16:=⟨_,rfl⟩;(have k1:hi<16:=by omega);(have k2:lo<16:=by omega);(have j2:IntKind.u8.wrap ((c.toNat:Int) / 16)=hi:=by rw [IntWalk.u8_in _ (by omega)];omega);(have j3:IntKind.u8.wrap ((c.toNat:Int) % 16)=lo:=by rw [IntWalk.u8_in _ (by omega)];omega);(have j4:(c.toNat:Int).tmod 16=lo:=by rw [IntWalk.rem_in _ _ (by omega)];omega);(have j8:(0:Int)<=lo:=by omega);(have j9:(0:Int)<=hi:=by omega);obtain ⟨i0,jv,hz0,hz1,hz2⟩:=info_parts cO;have fa:Fr NoB wr (wr.drew.alloc (.cells #[.int .u8 92,.int .u8 117,.int .u8 48,.int .u8 48,.int .u8 (iH (c / 16)).toNat,.int .u8 (iH (c % 16)).toNat] 5)):=(Fr.refl NoB wr).drew.alloc _;have dq:=hown.fr fa;have WZ:(wr.drew.alloc (.cells #[.int .u8 92,.int .u8 117,.int .u8 48,.int .u8 48,.int .u8 (iH (c / 16)).toNat,.int .u8 (iH (c % 16)).toNat] 5)).ownsRow w.heap.size 5 1 u3 (A.length+1) (bC (34::A)):=dq;(have j5:(hi:Int)<16:=by omega);(have j6:(lo:Int)<16:=by omega);have x1:=EG hi k1;have x2:=EG lo k2;have e1:hi.toUInt8=c / 16:=by
     rw [ez (by omega),lC];simp
    have e2:lo.toUInt8=c % 16:=by
     rw [ez (by omega),cN];simp
    rw [e1] at x1;rw [e2] at x2;have DV:Hid (aK c=[92,117,48,48,iH (c / 16),iH (c % 16)]):=hd' (by rw [HQ.out,if_pos NK]);clear HQ NK e1 e2 lC cN;generalize iH (c / 16)=d1 at *;generalize iH (c % 16)=d2 at *;go_wp2_with fail;go_region_law (first|(refine step_append_lies _ (by rfl) _ _ _ (by rfl) w.heap.size 5 i0 (.int .u8 0) 1 1 Tryz.underlying81 jv hz0 hz1 hz2 (by rfl) (by decide) u3 (A.length+1) (bC (34::A)) (by rfl) WZ ⟨wr.heap.size,0,none⟩ 6 6 (bC [92,117,48,48,d1,d2]) (by rfl) (by rfl) (fun j u hu=>by rw [bT,Nat.zero_add];exact aF wr.drew _ [92,117,48,48,d1,d2] rfl j u hu) (np _) (by omega) (by unfold maxLen;omega) (by omega) (by simp;omega) (wr.heap.size+1) (by simp) ?_;intro g cap w4 aB hgr hat qF));all_goals (go_wp2_with fail)
    all_goals (refine ⟨⟨m+1,by omega,by simp,?_,dq.grown (hf.trans fa) hgr (Nat.le_refl _)⟩,by simp [intOf];omega⟩)
    all_goals (rw [HT.out,DV.out];unfold BR;rw [show (34::(A++[92,117,48,48,d1,d2])).length=A.length+1+6 by simp];simpa using aB)
   ·(have i3:¬ (c.toNat:Int)<32:=by have:=mt UInt8.lt_iff_toNat_lt.2 NK;simp at this;omega);have DV:Hid (aK c=[c]):=hd' (by rw [HQ.out,if_neg NK]);clear NK HQ;have fa:Fr NoB wr (wr.alloc (.cells #[.int .u8 (c.toNat:Int)] 5)):=(Fr.refl _ _).alloc _;have dq:=hown.fr fa;go_wp2_with (at_builtin;go_loud (refine dL rfl _ _ rfl w.heap.size u3 _ rfl dq wr.heap.size 1 1 [c] rfl rfl (aF wr #[.int .u8 (c.toNat:Int)] [c] rfl) (by simp;omega) (by simp;omega) ?_;intro v4 w4 aB hgr));go_roundw
    case rel=>exact ⟨m+1,by omega,by simp,by rw [HT.out,DV.out];simpa using aB,dq.grown (hf.trans fa) hgr (Nat.le_refl _)⟩
    case measure=>simp [intOf];omega
  ·obtain rfl:m=s.length:=by omega
   rw [List.take_length] at hown hle;have HQ:Hid (bJ s=34::s.flatMap aK++[34]):=hd' rfl;generalize s.flatMap aK=A at *;have fa:Fr NoB wr (wr.alloc (.cells #[.int .u8 34] 5)):=(Fr.refl _ _).alloc _;have dq:=hown.fr fa;go_wp2_with (at_builtin;go_loud (refine dL rfl _ _ rfl w.heap.size u3 _ rfl dq wr.heap.size 1 1 [34] rfl rfl (aF wr #[.int .u8 34] [34] rfl) (by simp;omega) (by simp;omega) ?_;intro v4 w4 aB hgr));go_ret;exact ⟨_,rfl,by rw [HQ.out];simpa using aB,dq.grown (hf.trans fa) hgr (Nat.le_refl _)⟩
theorem EH (a b:Bs):(⟨a.toArray⟩:ByteArray)++⟨b.toArray⟩=⟨(a++b).toArray⟩:=by
 apply ByteArray.ext;simp [ByteArray.data_append]
theorem EI (u:Nat) (h:u<4611686018427387904):(Lib.decDigits u).length<=21:=by
 have:=Lib.itoa_length_le (u:Int) (by omega) (by omega);unfold Lib.itoa at this;rw [if_neg (by omega)] at this;simpa using this
theorem Lw {u:Nat} (h:¬ u<10):Lib.decDigits u=Lib.decDigits (u / 10)++[UInt8.ofNat (48+u % 10)]:=by
 rw [Lib.decDigits,dif_neg h]
theorem oY (u:World) (N:Nat) (b:UInt8) (h:u.cell? ⟨N,0,none⟩=some (.int .u8 (b.toNat:Int))):(convert 81 9 (.slice (some ⟨N,0,none⟩) 1 1)).run Tryz.prog u=.ok (.string ⟨[b].toArray⟩) u:=
 run_convert_bytes_back (P:=Tryz.prog) u 81 9 5 ⟨N,0,none⟩ 1 [b] Tryz.underlying81 Tryz.underlying5 Tryz.underlying9 (fun j hj=>by
  have:j=0:=by simpa using hj
  subst this;rw [bT];exact h)
theorem tA (u:Nat):u<4611686018427387904->∀ w:World,Calls Tryz.prog 108 #[.int .i64 u] w fun e w'=>e=.returned (sV (Lib.decDigits u))/\Fr NoB w w':=by
 induction u using Nat.strongRecOn with
 | _ u ih=>
  intro hu w;have k0:¬ (u:Int)<0:=by omega
  by_cases h:u<10
  ·have e:Lib.decDigits u=[UInt8.ofNat (48+u)]:=by rw [Lib.decDigits,dif_pos h]
   have k1:(u:Int)<10:=by omega
   have iE:=oY (w.alloc (.cells #[.int .u8 (48+(u:Int))] 5)) w.heap.size (UInt8.ofNat (48+u)) (by
    rw [World.cell?_alloc_mark];(have:((UInt8.ofNat (48+u)).toNat:Int)=48+u:=by simp [UInt8.toNat_ofNat'];omega);rw [this];rfl)
   rw [<- e] at iE;clear e;go_enter Tryz.func108,Tryz.ntmps108;go_wp2_with fail;go_ret;exact ⟨rfl,(Fr.refl NoB w).alloc _⟩
  ·have k1:¬ (u:Int)<10:=by omega
   have HC:Hid (∀ w,Calls Tryz.prog 108 #[.int .i64 ((u / 10:Nat):Int)] w fun e w'=>e=.returned (sV (Lib.decDigits (u / 10)))/\Fr NoB w w'):=hd' (ih (u / 10) (by omega) (by omega));have HE:Hid (Lib.decDigits u=Lib.decDigits (u / 10)++[UInt8.ofNat (48+u % 10)]):=hd' (Lw h);have MV:=EI (u / 10) (by omega);have hb:((UInt8.ofNat (48+u % 10)).toNat:Int)=48+((u % 10:Nat):Int):=by simp [UInt8.toNat_ofNat'];omega
   have j1:IntKind.i64.wrap ((u:Int) / 10)=((u / 10:Nat):Int):=by rw [IntWalk.i64_in _ (by omega)];omega
   have j2:(u:Int).tmod 10=((u % 10:Nat):Int):=by rw [IntWalk.rem_in _ _ (by omega)];omega
   have j3:IntKind.i64.wrap (48+((u % 10:Nat):Int))=48+((u % 10:Nat):Int):=by rw [IntWalk.i64_in _ (by omega)]
   have j4:IntKind.u8.wrap (48+((u % 10:Nat):Int))=48+((u % 10:Nat):Int):=by rw [IntWalk.u8_in _ (by omega)]
   clear ih;generalize u % 10=r at *;generalize u / 10=q at *;generalize Lib.decDigits q=D at *;generalize UInt8.ofNat (48+r)=b at *;have HV:Hid (∀ (b:UInt8) (D:Bs),Lib.decDigits u=D++[b]->sV (Lib.decDigits u)=.string ((⟨D.toArray⟩:ByteArray)++⟨[b].toArray⟩)):=hd' (fun b D h=>by rw [h,EH]);go_enter Tryz.func108,Tryz.ntmps108;have Y8:Hid (∀ x:World,(x.alloc (.cells #[.int .u8 (48+(r:Int))] 5)).cell? ⟨x.heap.size,0,none⟩=some (.int .u8 (b.toNat:Int))):=hd' (fun x=>by rw [World.cell?_alloc_mark,hb];rfl);have ajJ:(convert 81 9 (.slice (some ⟨w.heap.size,0,none⟩) 1 1)).run Tryz.prog (w.drew.alloc (.cells #[.int .u8 (48+(r:Int))] 5))=.ok (.string ⟨[b].toArray⟩) (w.drew.alloc (.cells #[.int .u8 (48+(r:Int))] 5)):=oY _ _ b (Y8.out w.drew);have ajK:(convert 81 9 (.slice (some ⟨w.heap.size,0,none⟩) 1 1)).run Tryz.prog (w.alloc (.cells #[.int .u8 (48+(r:Int))] 5)).drew=.ok (.string ⟨[b].toArray⟩) (w.alloc (.cells #[.int .u8 (48+(r:Int))] 5)).drew:=oY _ _ b (Y8.out w);have hov:¬ ((9223372036854775807:Int)<(D.length:Int)+1):=by omega
   have acd:¬ (9223372036854775807<D.length+1):=by omega
   clear hb;go_wp2_with fail;go_region_held (fun _=>True) (trivial) (first|(go_at_call 108;(with_reducible refine (HC.out _).mono ?_);rintro e w2 ⟨rfl,f2⟩;have ajM:=oY (w2.alloc (.cells #[.int .u8 (48+(r:Int))] 5)) w2.heap.size b (Y8.out w2);first|(have ajN:=oY w2 w.heap.size b ((f2.cell (p:=⟨w.heap.size,0,none⟩) (by simp) (fun e=>e)).trans (Y8.out w)))|skip));all_goals (go_wp2_with fail)
   all_goals go_ret
   all_goals first
    | exact ⟨congrArg Ending.returned (HV.out b D HE.out).symm,((Fr.refl NoB w).drew.trans f2).alloc _⟩
    | exact ⟨congrArg Ending.returned (HV.out b D HE.out).symm,((Fr.refl NoB w).alloc _).drew.trans f2⟩
    | exact ⟨congrArg Ending.returned (HV.out b D HE.out).symm,((Fr.refl NoB w).drew.alloc _).trans f2⟩
theorem Am (n:Int) (w:World) (h0 : -4611686018427387904<n) (h1:n<4611686018427387904):Calls Tryz.prog 108 #[.int .i64 n] w fun e w'=>e=.returned (sV (Lib.itoa n))/\Fr NoB w w':=by
 by_cases h:n<0
 ·obtain ⟨u,hu⟩:∃ u:Nat,n = -(u:Int):=⟨n.natAbs,by omega⟩;subst hu;have hlt:u<4611686018427387904:=by omega
  have HE:Hid (Lib.itoa (-(u:Int))=[45]++Lib.decDigits u):=hd' (by
   unfold Lib.itoa;rw [if_pos h];simp)
  have MV:=EI u hlt;have HC:=hd' (tA u hlt);have k1:(-(u:Int))<0:=h;have k2:IntKind.i64.wrap (u:Int)=u:=IntWalk.i64_in _ (by omega);have hov:¬ ((9223372036854775807:Int)<1+((Lib.decDigits u).length:Int)):=by omega
  generalize Lib.decDigits u=D at *;have acd:¬ (9223372036854775807<1+D.length):=by omega
  clear h h0 h1;go_enter Tryz.func108,Tryz.ntmps108;go_wp2_with (go_at_call 108;(with_reducible refine (HC.out _).mono ?_);rintro e w2 ⟨rfl,f2⟩);go_ret;exact ⟨congrArg Ending.returned (show Value.string ((⟨[45].toArray⟩:ByteArray)++⟨D.toArray⟩)=sV (Lib.itoa (-(u:Int))) by rw [HE.out,EH]),f2⟩
 ·obtain ⟨u,hu⟩:∃ u:Nat,n=(u:Int):=⟨n.toNat,by omega⟩;subst hu;have e:Lib.itoa (u:Int)=Lib.decDigits u:=by
   unfold Lib.itoa;rw [if_neg h];simp
  rw [e];exact tA u (by omega) w
end Go.Proofs.YtbifjamddbpcjaaGreatDoor
