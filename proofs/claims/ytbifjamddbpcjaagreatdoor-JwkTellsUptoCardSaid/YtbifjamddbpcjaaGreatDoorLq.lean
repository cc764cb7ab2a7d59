/- JSON: quoted: a text's form. -/
import Derived.Test.YtbifjamddbpcjaaGreatDoorLib
import Derived.Lib.ConvBytes
namespace Go.Proofs.YtbifjamddbpcjaaGreatDoor
set_option maxRecDepth 100000
set_option maxHeartbeats 25600000
open Go.RowKit
def JM (k:Nat):UInt8:=[34,92,98,116,110,102,114].getD k 0
theorem NJ (c:UInt8):(∃ k:Nat,k<7/\Lib.indexByte [34,92,8,9,10,12,13] c=(k:Int)/\aK c=[92,JM k])\/(Lib.indexByte [34,92,8,9,10,12,13] c = -1/\c.toNat<32/\aK c=[92,117,48,48,iH (c / 16),iH (c % 16)])\/(32<=c.toNat/\Lib.indexByte [34,92,8,9,10,12,13] c = -1/\aK c=[c]):=by
 have h:=eF (p:=fun c=>(decide ((Lib.indexByte [34,92,8,9,10,12,13] c).toNat<7)&&decide (Lib.indexByte [34,92,8,9,10,12,13] c=((Lib.indexByte [34,92,8,9,10,12,13] c).toNat:Int))&&decide (aK c=[92,JM (Lib.indexByte [34,92,8,9,10,12,13] c).toNat])) || (decide (Lib.indexByte [34,92,8,9,10,12,13] c = -1)&&decide (c.toNat<32)&&decide (aK c=[92,117,48,48,iH (c / 16),iH (c % 16)])) || (decide (32<=c.toNat)&&decide (Lib.indexByte [34,92,8,9,10,12,13] c = -1)&&decide (aK c=[c]))) (by decide +kernel) c;simp only [Bool.or_eq_true,Bool.and_eq_true,decide_eq_true_eq] at h;rcases h with (h|h)|h
 ·exact Or.inl ⟨_,h.1.1,h.1.2,h.2⟩
 ·exact Or.inr (Or.inl ⟨h.1.1,h.1.2,h.2⟩)
 ·exact Or.inr (Or.inr ⟨h.1.1,h.1.2,h.2⟩)
theorem Vx (c:UInt8):bits BinOp.and IntKind.u8 (c.toNat:Int) 15=((c.toNat % 16:Nat):Int):=of_decide_eq_true (eF (p:=fun c=>decide (bits BinOp.and IntKind.u8 (c.toNat:Int) 15=((c.toNat % 16:Nat):Int))) (by decide +kernel) c)
theorem Rp (k:Nat) (h:k<7):(⟨#[92]⟩:ByteArray)++(⟨#[34,92,98,116,110,102,114]⟩:ByteArray).extract k (k+1)=⟨[92,JM k].toArray⟩:=by
 revert k
 intro k h;have h2:k=0\/k=1\/k=2\/k=3\/k=4\/k=5\/k=6:=by omega
 rcases h2 with rfl|rfl|rfl|rfl|rfl|rfl|rfl<;>exact ByteArray.ext (by decide)
theorem Rq:∀ c:UInt8,c.toNat<32->(⟨#[92,117,48,48]⟩:ByteArray)++(⟨#[48,49]⟩:ByteArray).extract (c.toNat / 16) (c.toNat / 16+1)++(⟨#[48,49,50,51,52,53,54,55,56,57,97,98,99,100,101,102]⟩:ByteArray).extract (c.toNat % 16) (c.toNat % 16+1)=⟨[92,117,48,48,iH (c / 16),iH (c % 16)].toArray⟩:=fun c h=>by
 have h:=eF (p:=fun c=>decide (32<=c.toNat) || decide (((⟨#[92,117,48,48]⟩:ByteArray)++(⟨#[48,49]⟩:ByteArray).extract (c.toNat / 16) (c.toNat / 16+1)++(⟨#[48,49,50,51,52,53,54,55,56,57,97,98,99,100,101,102]⟩:ByteArray).extract (c.toNat % 16) (c.toNat % 16+1)).data=[92,117,48,48,iH (c / 16),iH (c % 16)].toArray)) (by decide +kernel) c;simp only [Bool.or_eq_true,decide_eq_true_eq] at h;exact ByteArray.ext (h.resolve_left (by omega))
theorem Bd.drew {w:World} {B b:Nat} {l:Bs} (h:Bd w B b l):Bd w.drew B b l:=h
theorem Bd.drewN {w:World} {B b:Nat} {l:Bs} (h:Bd w B b l) (n:Nat):Bd (w.drewN n) B b l:=h
theorem Wts.drew {b:Nat} {w w':World} (h:Wts b w.drew w'):Wts b w w':=⟨⟨h.fr.os,h.fr.tape,h.fr.output,h.fr.size,h.fr.block⟩,h.back⟩
theorem JN (w:World) (s:ByteArray):Fr NoB w (Lib.bytesWorld w 5 s):=
 ⟨rfl,rfl,rfl,by rw [Lib.bytesWorld_size];omega,fun k hk _=>Lib.bytesWorld_at_old w _ s k hk⟩
theorem sj (B b:Nat) (l s:Bs) (w:World) (h:Bd w B b l) (hl:l.length+6*s.length+2<=140737488355328) (hB:B<=w.heap.size) :
  Calls Tryz.prog 101 #[.pointer (some ⟨b,0,none⟩),.string ⟨s.toArray⟩] w fun e w'=>e=.returned (.tuple #[])/\Bd w' B b (l++bJ s)/\Wts b w w':=by
 have iE:=fun w=>Lib.run_convert_string_bytes (P:=Tryz.prog) w 9 81 5 ⟨s.toArray⟩ Tryz.underlying9 Tryz.underlying81 Tryz.underlying5;have hsz:(⟨s.toArray⟩:ByteArray).size=s.length:=by show s.toArray.size=_;simp
 rw [hsz] at iE;have HB:Hid (Calls Tryz.prog 102 #[.pointer (some ⟨b,0,none⟩),.int .u8 34] w fun e w'=>e=.returned .nilIface/\Bd w' B b (l++[34])/\Wts b w w'):=hd' (cJ B b l 34 w h (by omega) hB);clear h;go_enter Tryz.func101,Tryz.ntmps101;go_wp2_with (go_at_call 102;((with_reducible refine HB.out.mono ?_);rintro e w1 ⟨rfl,h1,t1⟩;have H1:=hd' h1;clear h1));have f2:=JN w1 ⟨s.toArray⟩;have hk:=H1.out.far f2 (Nat.le_refl _);have hcell:∀ m (hm:m<s.length),(Lib.bytesWorld w1 5 ⟨s.toArray⟩).cell? ⟨w1.heap.size,m,none⟩=some (.int .u8 (s[m].toNat:Int)):=fun m hm=>by
  rw [Lib.bytesWorld_cell w1 _ ⟨s.toArray⟩ m (by rw [hsz];exact hm)];simp [List.getD,hm]
 have Uk:w1.heap.size<(Lib.bytesWorld w1 5 ⟨s.toArray⟩).heap.size:=by rw [Lib.bytesWorld_size];omega
 generalize Lib.bytesWorld w1 5 ⟨s.toArray⟩=W at f2 hk hcell Uk ⊢;have HC:=hd' hcell;have HK:=hd' hk;clear hcell hk;go_loopw [12] (fun v wr=>∃ m:Nat,m<=s.length/\v=.int .i64 m/\Hid (Bd wr B b (l++34::(s.take m).flatMap aK))/\Wts b W wr) (fun v _=>s.length - (intOf v).toNat)
 case atStart=>exact ⟨0,Nat.zero_le _,rfl,hd' (by simpa using H1.out.keep f2 (fun _ _ e=>e)),Wts.refl _ _⟩
 case round=>
  obtain ⟨m,hm,rfl,sq,ht⟩:=hrel;by_cases hlt:m<s.length
  ·have d:=(ht.fr.cell (p:=⟨w1.heap.size,m,none⟩) Uk HK.out).trans (HC.out m hlt);have hlen:(l++34::(s.take m).flatMap aK).length+6<=140737488355328:=by
    have:=ow (s.take m);simp only [List.length_append,List.length_cons,List.length_take] at this ⊢;omega
   have uk:(l++34::(s.take m).flatMap aK)++aK s[m]=l++34::(s.take (m+1)).flatMap aK:=by
    have e:s.take (m+1)=s.take m++[s[m]]:=(List.take_append_getElem hlt).symm;rw [e,List.flatMap_append];simp only [List.flatMap_cons,List.flatMap_nil,List.append_nil,List.append_assoc,List.cons_append]
   have Vy:B<=wr.heap.size:=by have a:=t1.fr.size;have b:=f2.size;have c:=ht.fr.size;omega
   generalize s[m]=c at d uk;generalize (l++34::(s.take m).flatMap aK)=A at sq hlen uk;have HN:=hd' uk;clear uk;rcases NJ c with ⟨k,hk7,hi,P0⟩|⟨hi,NK,P0⟩|⟨NK,hi,P0⟩
   ·have HW:Hid (∀ x:ByteArray,x=⟨[92,JM k].toArray⟩->Calls Tryz.prog 62 #[.pointer (some ⟨b,0,none⟩),.string x] wr fun e w'=>e=.returned (.tuple #[.int .i64 2,.nilIface])/\Bd w' B b (A++[92,JM k])/\Wts b wr w'):=hd' (fun x hx=>by subst hx;refine (jR B b A _ wr sq.out (by simp;omega) Vy).mono ?_;rintro e w' ⟨rfl,h⟩;exact ⟨rfl,h⟩);have Hi:=hd' hi;have HX:=hd' (Rp k hk7);(have k0:(0:Int)<=k:=by omega);(have k1:(k:Int)+1<=7:=by omega);have qc:=HN.out;rw [P0] at qc;have PL:=hd' qc;clear hi qc P0;go_wp2_with (first|(go_at_call 87;((with_reducible refine (bq [34,92,8,9,10,12,13] _ _).mono ?_);rintro e w2 ⟨rfl,rfl⟩;simp only [Int.toNat_natCast,Nat.toUInt8_eq,UInt8.ofNat_toNat];rw [Hi.out]))|(go_at_call 62;go_loud ((with_reducible refine (HW.out _ (by exact HX.out)).mono ?_);rintro e w3 ⟨rfl,h3,t3⟩)));go_roundw
    case rel=>exact ⟨m+1,by omega,by simp,hd' (by rw [<- PL.out];exact h3),ht.trans t3⟩
    case measure=>simp [intOf];omega
   ·have HW:Hid (∀ (x:ByteArray) (v:World),x=⟨[92,117,48,48,iH (c / 16),iH (c % 16)].toArray⟩->Bd v B b A->B<=v.heap.size->Calls Tryz.prog 62 #[.pointer (some ⟨b,0,none⟩),.string x] v fun e w'=>e=.returned (.tuple #[.int .i64 6,.nilIface])/\Bd w' B b (A++[92,117,48,48,iH (c / 16),iH (c % 16)])/\Wts b v w'):=hd' (fun x v hx hv hBv=>by subst hx;refine (jR B b A _ v hv (by simp;omega) hBv).mono ?_;rintro e w' ⟨rfl,h⟩;exact ⟨rfl,h⟩);have Hi:=hd' hi;have HX:=hd' (Rq c NK);have qc:=HN.out;rw [P0] at qc;have PL:=hd' qc;clear hi qc P0;have hc:=c.toNat_lt;obtain ⟨hi,lC⟩:∃ x,x=c.toNat / 16:=⟨_,rfl⟩;obtain ⟨lo,cN⟩:∃ x,x=c.toNat % 16:=⟨_,rfl⟩;(have i3:(c.toNat:Int)<32:=by omega);(have e1:(c.toNat:Int) / 16=(hi:Int):=by omega);(have e2:(c.toNat:Int) % 16=(lo:Int):=by omega);(have j2:IntKind.u8.wrap ((c.toNat:Int) / 16)=hi:=by rw [IntWalk.u8_in _ (by omega)];omega);(have j3:IntKind.u8.wrap ((c.toNat:Int) % 16)=lo:=by rw [IntWalk.u8_in _ (by omega)];omega);(have j4:IntKind.u8.wrap ((hi:Int)+1)=(hi:Int)+1:=by rw [IntWalk.u8_in _ (by omega)]);(have j5:IntKind.u8.wrap ((lo:Int)+1)=(lo:Int)+1:=by rw [IntWalk.u8_in _ (by omega)]);(have k1:(0:Int)<=hi:=by omega);(have k2:(0:Int)<=lo:=by omega);(have k3:(hi:Int)+1<=2:=by omega);(have k4:(lo:Int)+1<=16:=by omega);(have k5:((lo:Int)+1) % 256=lo+1:=by omega);(have k6:bits BinOp.and IntKind.u8 (c.toNat:Int) 15=(lo:Int):=by rw [cN];exact Vx c);rw [<- lC,<- cN] at HX;clear lC cN hc;go_wp2_with (go_at_call 87;((with_reducible refine (bq [34,92,8,9,10,12,13] _ _).mono ?_);rintro e w2 ⟨rfl,rfl⟩;simp only [Int.toNat_natCast,Nat.toUInt8_eq,UInt8.ofNat_toNat];rw [Hi.out]));go_region_with (go_at_call 62;go_loud (refine (HW.out _ _ (by first|exact HX.out|(rw [Nat.mod_eq_of_lt (show lo+1<256 by omega)];exact HX.out)) (by first|exact sq.out|exact sq.out.drew|exact sq.out.drewN _) (by exact Vy)).mono ?_;rintro e w3 ⟨rfl,h3,t3⟩));try go_wp2_with fail
    go_roundw
    case rel=>exact ⟨m+1,by omega,by simp,hd' (by rw [<- PL.out];exact h3),ht.trans (Wts.drew t3)⟩
    case measure=>simp [intOf];omega
    all_goals exact ⟨⟨m+1,by omega,by simp,hd' (by rw [<- PL.out];exact h3),ht.trans (Wts.drew t3)⟩,by simp [intOf];omega⟩
   ·(have ahJ:¬ ((c.toNat:Int)<32):=by omega);have Hi:=hd' hi;have HW:Hid (Calls Tryz.prog 102 #[.pointer (some ⟨b,0,none⟩),.int .u8 (c.toNat:Int)] wr fun e w'=>e=.returned .nilIface/\Bd w' B b (A++[c])/\Wts b wr w'):=hd' (cJ B b A c wr sq.out (by omega) Vy);have qc:=HN.out;rw [P0] at qc;have PL:=hd' qc;clear hi qc P0;go_wp2_with (first|(go_at_call 87;((with_reducible refine (bq [34,92,8,9,10,12,13] _ _).mono ?_);rintro e w2 ⟨rfl,rfl⟩;simp only [Int.toNat_natCast,Nat.toUInt8_eq,UInt8.ofNat_toNat];rw [Hi.out]))|(go_at_call 102;((with_reducible refine HW.out.mono ?_);rintro e w3 ⟨rfl,h3,t3⟩)));go_roundw
    case rel=>exact ⟨m+1,by omega,by simp,hd' (by rw [<- PL.out];exact h3),ht.trans t3⟩
    case measure=>simp [intOf];omega
  ·obtain rfl:m=s.length:=by omega
   have Vy:B<=wr.heap.size:=by have a:=t1.fr.size;have b:=f2.size;have c:=ht.fr.size;omega
   have HW:Hid (Calls Tryz.prog 102 #[.pointer (some ⟨b,0,none⟩),.int .u8 34] wr fun e w'=>e=.returned .nilIface/\Bd w' B b ((l++34::(s.take s.length).flatMap aK)++[34])/\Wts b wr w'):=hd' (cJ B b _ 34 wr sq.out (by have:=ow (s.take s.length);simp only [List.length_append,List.length_cons,List.length_take] at this ⊢;omega) Vy);go_wp2_with (go_at_call 102;((with_reducible refine HW.out.mono ?_);rintro e w3 ⟨rfl,h3,t3⟩));go_end0;exact ⟨rfl,by simpa [bJ] using h3,(t1.trans ((Wts.refl b w1).cT f2 H1.out.lt)).trans (ht.trans t3)⟩
end Go.Proofs.YtbifjamddbpcjaaGreatDoor
