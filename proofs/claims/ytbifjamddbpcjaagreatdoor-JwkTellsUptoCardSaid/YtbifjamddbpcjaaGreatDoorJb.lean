/- JSON: the program's reader: blanks, take, digits, number, exact. -/
import Derived.Test.YtbifjamddbpcjaaGreatDoorLib
import Derived.Lib.AtoiAllCases
import Derived.Lib.ConvBytes
namespace Go.Proofs.YtbifjamddbpcjaaGreatDoor
set_option maxRecDepth 100000
set_option maxHeartbeats 25600000
open Go.RowKit
def Rd (w:World) (b:Nat) (s:Bs):Prop:=Blk w b 189 #[.string ⟨s.toArray⟩]
theorem Rd.fr {S:Nat->Prop} {w w':World} {b:Nat} {s:Bs} (h:Rd w b s) (f:Fr S w w') (hs:¬ S b):Rd w' b s:=f.blk h hs
theorem Rd.set {w:World} {b:Nat} {s:Bs} (h:Rd w b s) (t:Bs):Rd (w.setCell ⟨b,0,none⟩ (.string ⟨t.toArray⟩)) b t:=by
 have:=Blk.aS h 0 (.string ⟨t.toArray⟩);unfold Rd;simpa using this
section
variable {w:World} {b:Nat} {s:Bs}
theorem Rd.cell (h:Rd w b s):w.cell? ⟨b,0,none⟩=some (.string ⟨s.toArray⟩):=(Blk.cell h 0).trans rfl
theorem Rd.frozen (h:Rd w b s):w.frozen? ⟨b,0,none⟩=false:=Blk.frozen h 0
theorem Rd.lt (h:Rd w b s):b<w.heap.size:=Blk.lt h
end
def rW (w:World) (b:Nat) (t:Bs) (w':World):Prop:=Fr (Only b) w w'/\Rd w' b t
theorem kS (b:Nat) (s:Bs) (w:World) (h:Rd w b s) :
  Calls Tryz.prog 128 #[.pointer (some ⟨b,0,none⟩)] w fun e w'=>e=.returned (.tuple #[])/\rW w b (blanks s) w':=by
 have hc:=h.cell;go_enter Tryz.func128,Tryz.ntmps128;go_wp2_with (go_at_call 173;refine (kH s [32,9,10,13] _ (by decide) (by decide)).mono ?_;rintro e w1 ⟨rfl,f1⟩;have r1:=h.fr f1 (fun e=>e);have c1:=r1.cell;have z1:=r1.frozen);go_end0;exact ⟨rfl,(f1.cT).only _,r1.set _⟩
theorem eU (b:Nat) (s p:Bs) (w:World) (h:Rd w b s) (hp:Lib.hasPrefix s p=true) :
  Calls Tryz.prog 176 #[.pointer (some ⟨b,0,none⟩),.string ⟨p.toArray⟩] w fun e w'=>e=.returned (.bool true)/\rW w b (blanks (s.drop p.length)) w':=by
 have hc:=h.cell;have hz:=h.frozen;have h2:=h.set (s.drop p.length);go_enter Tryz.func176,Tryz.ntmps176;go_wp2_with (first|(go_at_call 211;refine (eT s p _ hp).mono ?_;rintro e w1 ⟨rfl,rfl⟩)|(go_at_call 128;refine (kS b _ _ h2).mono ?_;rintro e w1 ⟨rfl,f1,r1⟩));go_ret;exact ⟨rfl,((Fr.refl _ w).only _).trans f1,r1⟩
theorem aZ (b:Nat) (s p:Bs) (w:World) (h:Rd w b s) (hp:Lib.hasPrefix s p=false) :
  Calls Tryz.prog 176 #[.pointer (some ⟨b,0,none⟩),.string ⟨p.toArray⟩] w fun e w'=>e=.returned (.bool false)/\w=w':=by
 have hc:=h.cell;go_enter Tryz.func176,Tryz.ntmps176;go_wp2_with (go_at_call 211;refine (kL s p _ hp).mono ?_;rintro e w1 ⟨rfl,rfl⟩);go_ret;exact ⟨rfl,rfl⟩
theorem Ho (s:Bs):(s.length:Int) - (Lib.trimLeftS s [48,49,50,51,52,53,54,55,56,57]).length=gT s:=by
 have e:∀ c:UInt8,[48,49,50,51,52,53,54,55,56,57].contains c=lE c:=fun c=>by simpa using eF (p:=fun c=>[48,49,50,51,52,53,54,55,56,57].contains c==lE c) (by decide +kernel) c
 unfold gT Lib.trimLeftS;rw [show (fun c:UInt8=>[48,49,50,51,52,53,54,55,56,57].contains c)=lE from funext e];have:=List.takeWhile_append_dropWhile (p:=lE) (l:=s);have h2:=congrArg List.length this;simp only [List.length_append] at h2;omega
theorem ie (s:Bs) (w:World) (hs:s.length<=281474976710656) :
  Calls Tryz.prog 214 #[.string ⟨s.toArray⟩] w fun e w'=>e=.returned (.int .i64 (gT s))/\Fr NoB w w':=by
 have H:=hd' (Ho s);go_enter Tryz.func214,Tryz.ntmps214;go_wp2_with (go_at_call 173;refine (kH s [48,49,50,51,52,53,54,55,56,57] _ (by decide) (by decide)).mono ?_;rintro e w1 ⟨rfl,f1⟩);go_ret;have hd:gT s<=s.length:=by unfold gT;exact (List.takeWhile_sublist _).length_le
 exact ⟨iJ (by rw [H.out];exact IntWalk.wrap64_in _ ⟨by omega,by omega⟩),f1⟩
theorem Ht {s:Bs} (h:Lib.hasPrefix s [45]=false):dK s=0:=by
 unfold dK Lib.hasPrefix at *;cases s with
 | nil=>rfl
 | cons c r=>simp [List.isPrefixOf] at h ⊢;exact fun e=>h e.symm
theorem Dc {s:Bs} (h:Lib.hasPrefix s [45]=true):dK s=1/\1<=s.length:=by
 unfold dK Lib.hasPrefix at *;cases s with
 | nil=>simp at h
 | cons c r=>simp at h ⊢;exact h.symm
theorem AJ {s:Bs}:iC s=0 ↔ gT s=0:=by
 unfold iC;split
 ·rename_i h
  cases s with
  | nil=>simp at h
  | cons c r=>simp at h;subst h;simp [gT,lE]
 ·rfl
theorem Hu {s:Bs} {i:Nat} (hi:dK s=i) (hn:gT (s.drop i)=0):jb s=0:=by
 unfold jb;rw [hi];simp [AJ.2 hn]
theorem drop_at {s:Bs} {i:Nat} (h:i<s.length):s.drop i=s[i]::s.drop (i+1):=List.drop_eq_getElem_cons h
theorem Lx {s:Bs} {i n:Nat} (h:i<s.length) (hn:gT (s.drop i)=n):iC (s.drop i)=if s[i]=48 then 1 else n:=by
 rw [iC,drop_at h];simp only [List.head?_cons,Option.some.injEq];rw [<- drop_at h,hn]
theorem OV {s:Bs} (h:Lib.hasPrefix s [46]=false):mU s=0:=by
 unfold Lib.hasPrefix at h;cases s with
 | nil=>rfl
 | cons c r=>simp [List.isPrefixOf] at h;simp [mU];intro e;exact absurd e.symm h
theorem Lz {s:Bs} (h:Lib.hasPrefix s [46]=true):1<=s.length/\mU s=if 0<gT (s.drop 1) then 1+gT (s.drop 1) else 0:=by
 unfold Lib.hasPrefix at h;cases s with
 | nil=>simp at h
 | cons c r=>simp [List.isPrefixOf] at h;subst h;simp [mU]
theorem OW {s:Bs} {k:Nat} (h:¬ k<s.length):xd (s.drop k)=0:=by
 rw [List.drop_eq_nil_of_le (by omega)];rfl
theorem S7 {s:Bs} {k:Nat} (h:k<s.length) (h1:s[k]≠101) (h2:s[k]≠69):xd (s.drop k)=0:=by
 rw [drop_at h];simp [xd,h1,h2]
theorem S8 {s:Bs} {k:Nat} (h:k<s.length) (h1:s[k]=101\/s[k]=69) :
  xd (s.drop k)=if 0<gT (s.drop (k+1+jW (s.drop (k+1)))) then 1+jW (s.drop (k+1))+gT (s.drop (k+1+jW (s.drop (k+1)))) else 0:=by
 rw [drop_at h];simp only [xd,h1,true_and,List.drop_drop]
theorem tB {s:Bs} {k:Nat} (h:¬ k<s.length):jW (s.drop k)=0:=by
 rw [List.drop_eq_nil_of_le (by omega)];rfl
theorem ya {s:Bs} {k:Nat} (h:k<s.length):jW (s.drop k)=if s[k]=43\/s[k]=45 then 1 else 0:=by
 rw [drop_at h];rfl
theorem Hw {s:Bs} {i m k:Nat} (hi:dK s=i) (hm:iC (s.drop i)=m) (h0:0<m) (hk:i+m+mU (s.drop (i+m))=k):jb s=k+xd (s.drop k):=by
 unfold jb;rw [hi];simp only [hm,hk];rw [if_neg (by omega)]
theorem lY (s:Bs) (w:World) (hs:s.length<=281474976710656) :
  Calls Tryz.prog 178 #[.string ⟨s.toArray⟩] w fun e w'=>e=.returned (.int .i64 (jb s))/\Fr NoB w w':=by
 have hx:=iu s;have hg:=aM s;go_enter Tryz.func178,Tryz.ntmps178;go_upto_if 9 with (go_at_call 174;refine (aI s [45] _).mono ?_;rintro e w' ⟨rfl,rfl⟩);go_cut [3] (fun v3 wx=>(∃ i:Nat,i<=s.length/\Hid (dK s=i)/\v3=.int .i64 i)/\w=wx)
 case first=>
  clear hx hg;cases hm:Lib.hasPrefix s [45]
  ·have h0:dK s=0:=Ht hm;go_wp2_with fail;go_meet;exact ⟨⟨0,Nat.zero_le _,hd' h0,rfl⟩,rfl⟩
  ·obtain ⟨h0,h1⟩:=Dc hm;go_wp2_with fail;go_meet;exact ⟨⟨1,h1,hd' h0,rfl⟩,rfl⟩
 case rest=>
  obtain ⟨⟨i,hi,Hi,rfl⟩,rfl⟩:=hcut;go_upto_if 15 with (go_at_call 214;with_reducible refine (ie (s.drop i) _ (by simp;omega)).mono ?_;rintro e w1 ⟨rfl,f1⟩);generalize hn:gT (s.drop i)=n;have Hn:=hd' hn;have I9:i+n<=s.length:=by have:=re (s.drop i);simp at this;omega
  clear hn;by_cases dx:n=0
  ·subst dx;have hf:jb s=0:=Hu Hi.out Hn.out;have Hf:=hd' hf;clear hf;go_wp2_with fail;go_ret;exact ⟨iJ (by rw [Hf.out];rfl),f1⟩
  ·have Us:((n:Int)==0)=false:=beq_eq_false_iff_ne.2 (by omega);have Aa:i<s.length:=by omega
   go_upto_if 19 with fail;go_cut [4] (fun v4 wx=>(∃ m:Nat,0<m/\i+m<=s.length/\Hid (iC (s.drop i)=m)/\v4=.int .i64 m)/\w1=wx)
   case first=>
    have hwh:=hd' (Lx Aa Hn.out);by_cases hz:s[i]=48
    ·(have hzb:((s[i].toNat:Int)==48)=true:=by rw [hz];rfl);go_wp2_with fail;go_meet;exact ⟨⟨1,by omega,by omega,hd' (by rw [hwh.out,if_pos hz]),rfl⟩,rfl⟩
    ·have hzb:((s[i].toNat:Int)==48)=false:=jE 48 (by omega) hz;go_wp2_with fail;go_meet;exact ⟨⟨n,by omega,by omega,hd' (by rw [hwh.out,if_neg hz]),rfl⟩,rfl⟩
   case rest=>
    obtain ⟨⟨m,rI,uy,Hm,rfl⟩,rfl⟩:=hcut;clear dx Us I9 Hn;go_upto_if 26 with (go_at_call 174;with_reducible refine (aI (s.drop (i+m)) [46] _).mono ?_;rintro e w2 ⟨rfl,rfl⟩);go_cut [3] (fun v3 wx=>(∃ k:Nat,k<=s.length/\Hid (i+m+mU (s.drop (i+m))=k)/\v3=.int .i64 k)/\Fr NoB w wx)
    case first=>
     cases hp:Lib.hasPrefix (s.drop (i+m)) [46]
     ·have gJ:=OV hp;go_wp2_with fail;go_meet;exact ⟨⟨i+m,uy,hd' (by rw [gJ];rfl),by go_num⟩,f1⟩
     ·obtain ⟨hfl,S9⟩:=Lz hp;simp only [List.length_drop] at hfl;rw [List.drop_drop] at S9;have MV:=re (s.drop (i+m+1));simp only [List.length_drop] at MV;have gJ:=hd' S9;clear S9;go_wp2_with (go_at_call 214;with_reducible refine (ie (s.drop (i+m+1)) _ (by simp;omega)).mono ?_;rintro e w3 ⟨rfl,f3⟩)
      ·(have xp:0<gT (s.drop (i+m+1)):=by assumption);go_meet;exact ⟨⟨i+m+(1+gT (s.drop (i+m+1))),by omega,hd' (by rw [gJ.out,if_pos xp]),by go_num⟩,f1.trans f3⟩
      ·(have xp:¬ 0<gT (s.drop (i+m+1)):=by assumption);go_meet;exact ⟨⟨i+m,by omega,hd' (by rw [gJ.out,if_neg xp];rfl),by go_num⟩,f1.trans f3⟩
    case rest=>
     obtain ⟨⟨k,jU,Hk,rfl⟩,f2⟩:=hcut;have Hf:=hd' (Hw Hi.out Hm.out rI Hk.out);clear Hi Hm Hk rI uy hi Aa f1;by_cases hk:k<s.length
     ·by_cases hE:s[k]=101\/s[k]=69
      ·have hex:=S8 hk hE;have MV:=re (s.drop (k+1+jW (s.drop (k+1))));simp only [List.length_drop] at MV;generalize Hy:jW (s.drop (k+1))=sg at hex MV;have W8:=hd' Hy;generalize hdg:gT (s.drop (k+1+sg))=dg at hex MV;have W9:=hd' hdg;have Xa:=hd' hex;clear hex Hy hdg;have Ix:k+1+sg<=s.length:=by
        rw [<- W8.out];by_cases h1:k+1<s.length
        ·rw [ya h1];split<;>omega
        ·rw [tB h1];omega
       have UD:(((s[k].toNat:Int)==101)=true)\/(((s[k].toNat:Int)==101)=false/\((s[k].toNat:Int)==69)=true):=by
        rcases hE with h|h
        ·exact Or.inl (by rw [h];rfl)
        ·exact Or.inr ⟨by rw [h];rfl,by rw [h];rfl⟩
       clear hE;rcases UD with UD|⟨UD,hE2⟩
       all_goals
        go_upto_region 16 with fail;go_cut [71] (fun v wx=>v=.bool (decide (sg=1))/\Fr NoB w wx)
        case first=>
         clear Xa W9 MV UD;by_cases h1:k+1<s.length
         ·have Hy:=ya h1;rw [W8.out] at Hy;by_cases Y9:s[k+1]=43
          ·(have hb:((s[k+1].toNat:Int)==43)=true:=by rw [Y9];rfl);obtain rfl:sg=1:=by rw [Hy,if_pos (Or.inl Y9)]
           clear Hy;go_wp2_with fail;go_meet;exact ⟨rfl,f2⟩
          ·by_cases RG:s[k+1]=45
           ·(have hb:((s[k+1].toNat:Int)==43)=false:=by rw [RG];rfl);(have iD:((s[k+1].toNat:Int)==45)=true:=by rw [RG];rfl);obtain rfl:sg=1:=by rw [Hy,if_pos (Or.inr RG)]
            clear Hy;go_wp2_with fail;go_meet;exact ⟨rfl,f2⟩
           ·have hb:((s[k+1].toNat:Int)==43)=false:=jE 43 (by omega) Y9;have iD:((s[k+1].toNat:Int)==45)=false:=jE 45 (by omega) RG;obtain rfl:sg=0:=by rw [Hy,if_neg (by rintro (h|h);exact Y9 h;exact RG h)]
            clear Hy;go_wp2_with fail;go_meet;exact ⟨rfl,f2⟩
         ·have Hy:=tB h1;rw [W8.out] at Hy;subst Hy;go_wp2_with fail;go_meet;exact ⟨rfl,f2⟩
        case rest=>
         obtain ⟨rfl,f3⟩:=hcut;clear UD f2;have ace:sg=0\/sg=1:=by
          rw [<- W8.out];by_cases h1:k+1<s.length
          ·rw [ya h1];split<;>omega
          ·rw [tB h1];omega
         clear W8;rcases ace with rfl|rfl
         ·simp only [show decide (0=1)=false from rfl];have Hd:Hid (gT (s.drop (k+1))=dg):=hd' W9.out;clear W9;by_cases UE:0<dg
          ·go_wp2_with (go_at_call 214;((with_reducible refine (ie (s.drop (k+1)) _ (by simp;omega)).mono ?_);rintro e w3 ⟨rfl,f4⟩;rw [Hd.out]));go_ret;exact ⟨iJ (by rw [Hf.out,Xa.out,if_pos UE];omega),f3.trans f4⟩
          ·go_wp2_with (go_at_call 214;((with_reducible refine (ie (s.drop (k+1)) _ (by simp;omega)).mono ?_);rintro e w3 ⟨rfl,f4⟩;rw [Hd.out]));go_ret;exact ⟨iJ (by rw [Hf.out,Xa.out,if_neg UE];rfl),f3.trans f4⟩
         ·simp only [decide_true];have Hd:=W9;clear W9;by_cases UE:0<dg
          ·go_wp2_with (go_at_call 214;((with_reducible refine (ie (s.drop (k+1+1)) _ (by simp;omega)).mono ?_);rintro e w3 ⟨rfl,f4⟩;rw [Hd.out]));go_ret;exact ⟨iJ (by rw [Hf.out,Xa.out,if_pos UE];omega),f3.trans f4⟩
          ·go_wp2_with (go_at_call 214;((with_reducible refine (ie (s.drop (k+1+1)) _ (by simp;omega)).mono ?_);rintro e w3 ⟨rfl,f4⟩;rw [Hd.out]));go_ret;exact ⟨iJ (by rw [Hf.out,Xa.out,if_neg UE];rfl),f3.trans f4⟩
      ·have UD:((s[k].toNat:Int)==101)=false:=jE 101 (by omega) (fun h=>hE (Or.inl h));have hE2:((s[k].toNat:Int)==69)=false:=jE 69 (by omega) (fun h=>hE (Or.inr h));have hex:=hd' (S7 hk (fun h=>hE (Or.inl h)) (fun h=>hE (Or.inr h)));clear hE;go_wp2_with fail;go_ret;exact ⟨iJ (by rw [Hf.out,hex.out];rfl),f2⟩
     ·have hex:=hd' (OW hk);go_wp2_with fail;go_ret;exact ⟨iJ (by rw [Hf.out,hex.out];rfl),f2⟩
def acf (w:World) (e:Ending) (w':World):Prop:=∃ x:Int,e=.returned (.tuple #[.int .i64 x,.bool false])/\Fr NoB w w'
theorem Hz {B:Nat} (s:Bs) (n:Int) (w:World) (hx:Cx B w) (hs:s.length<=281474976710656) (h:jc s=some n) :
  Calls Tryz.prog 179 #[.string ⟨s.toArray⟩] w fun e w'=>e=.returned (.tuple #[.int .i64 n,.bool true])/\Fr NoB w w':=by
 have h3:Lib.atoiAll s=.ok n/\Lib.itoa n=s/\n<=kG /\ -kG<=n:=by
  unfold jc at h;split at h
  ·rename_i m hm
   split at h
   ·rename_i hc;cases h;exact ⟨hm,hc⟩
   ·cases h
  ·cases h
 unfold kG at h3;obtain ⟨hq,jv,lz,iD⟩:=h3;have HQ:=hd' hq;clear hq h;go_enter Tryz.func179,Tryz.ntmps179;go_wp2_with (first|(go_at_call 215;((with_reducible refine (D6 s _ hs n HQ.out).mono ?_);rintro e w1 ⟨rfl,f1⟩))|(go_at_call 100;((with_reducible refine (om n (by omega) (by omega) _ (hx.eG f1)).mono ?_);rintro e w2 ⟨rfl,f2⟩)));go_ret2;exact ⟨rfl,f1.trans f2⟩
theorem LB {B:Nat} (s:Bs) (w:World) (hx:Cx B w) (hs:s.length<=281474976710656) (h:jc s=none) :
  Calls Tryz.prog 179 #[.string ⟨s.toArray⟩] w (acf w):=by
 cases hq:Lib.atoiAll s with
 | ok n=>
  obtain ⟨lz,iD⟩:=Lib.atoiAll_bounds hq;have h3:¬ (Lib.itoa n=s/\n<=kG /\ -kG<=n):=by
   intro hc;unfold jc at h;rw [hq] at h;simp [hc] at h
  unfold kG at h3;have HQ:=hd' hq;clear hq h;go_enter Tryz.func179,Tryz.ntmps179;go_wp2_with (first|(go_at_call 215;((with_reducible refine (D6 s _ hs n HQ.out).mono ?_);rintro e w1 ⟨rfl,f1⟩))|(go_at_call 100;((with_reducible refine (om n (by omega) (by omega) _ (hx.eG f1)).mono ?_);rintro e w2 ⟨rfl,f2⟩)));all_goals go_ret2
  ·have e1:Lib.itoa n=s:=by assumption
   have e2:n<=9007199254740991:=by assumption
   have e3:¬ -9007199254740991<=n:=fun e=>h3 ⟨e1,e2,e⟩;exact ⟨n,by simp [e3],f1.trans f2⟩
  ·exact ⟨n,rfl,f1.trans f2⟩
  ·exact ⟨n,rfl,f1.trans f2⟩
 | _=>
  have Hno:Hid (∀ n,Lib.atoiAll s≠.ok n):=hd' (by rw [hq];intro n h;cases h);clear h hq;go_enter Tryz.func179,Tryz.ntmps179;go_wp2_with (go_at_call 215;((with_reducible refine (N0 s _ hx hs Hno.out).mono ?_);rintro e w1 ⟨x,T,p,rfl,f1⟩));go_ret2;exact ⟨x,rfl,f1⟩
def qI (l:Bs):Nat:=l.foldl (fun a c=>16*a+cM c) 0
theorem wj (l:Bs) (c:UInt8):qI (l++[c])=16*qI l+cM c:=by simp [qI]
theorem EJ:∀ (l:Bs) (a:Nat),(∀ c∈l,cM c<16)->l.foldl (fun a c=>16*a+cM c) a<16 ^ l.length*(a+1)
 | [],a,_=>by simp
 | c::r,a,h=>by
  have ih:=EJ r (16*a+cM c) (fun x hx=>h x (List.mem_cons_of_mem _ hx));have hc:=h c List.mem_cons_self;simp only [List.foldl_cons,List.length_cons,Nat.pow_succ];refine Nat.lt_of_lt_of_le ih ?_;rw [Nat.mul_assoc];exact Nat.mul_le_mul_left _ (by omega)
theorem pD (s:Bs) (k:Nat) (h4:s.length=4) (hk:k<=4) (h:∀ c∈s,cM c<16):qI (s.take k)<65536:=by
 have:=EJ (s.take k) 0 (fun c hc=>h c (List.mem_of_mem_take hc));have e:(s.take k).length=k:=by simp;omega
 rw [e] at this;refine Nat.lt_of_lt_of_le this ?_;have:(16:Nat) ^ k<=16 ^ 4:=Nat.pow_le_pow_right (by omega) hk;omega
theorem wm (c:Int) (w:World):Calls Tryz.prog 298 #[.int .u8 c] w fun e w'=>e=.returned (.int .u8 (bits .or .u8 c 32))/\w=w':=by
 go_enter Tryz.func298,Tryz.ntmps298;go_wp2;go_ret;exact ⟨rfl,rfl⟩
theorem H0 (c:UInt8) (h:cM c<16) (hn:¬ (48<=c.toNat/\c.toNat<=57)):bits .or .u8 (c.toNat:Int) 32=(cM c:Int)+87/\10<=cM c:=by
 have:=eF (p:=fun c => !(decide (cM c<16) && !(decide (48<=c.toNat)&&decide (c.toNat<=57))) || (bits .or .u8 (c.toNat:Int) 32==(cM c:Int)+87&&decide (10<=cM c))) (by decide +kernel) c;simp only [Bool.or_eq_true,Bool.not_eq_true',Bool.and_eq_true,Bool.and_eq_false_iff,decide_eq_true_eq,decide_eq_false_iff_not,beq_iff_eq,Bool.not_eq_false'] at this;rcases this with (h'|h')|h'
 ·exact absurd h h'
 ·exact absurd h' hn
 ·exact h'
theorem H5 (c:UInt8) (h:48<=c.toNat/\c.toNat<=57):(cM c:Int)=(c.toNat:Int) - 48:=by
 unfold cM;rw [if_pos h];omega
theorem LC (s:Bs) (w:World) (h4:s.length=4) (hh:∀ c∈s,cM c<16) :
  Calls Tryz.prog 290 #[.string ⟨s.toArray⟩,.int .i64 16,.int .i64 16] w fun e w'=>e=.returned (.tuple #[.int .u64 (qI s),.nilIface])/\Fr NoB w w':=by
 have hne:(s==[])=false:=by cases s with|nil=>simp at h4|cons c r=>rfl
 have Q6:s.isEmpty=false:=by cases s with|nil=>simp at h4|cons c r=>rfl
 have iE:=Lib.run_convert_string_bytes (P:=Tryz.prog) w 9 81 5 ⟨s.toArray⟩ (u:=.string) Tryz.underlying9 Tryz.underlying81 Tryz.underlying5;have hB:∀ j,j<4->(Lib.bytesWorld w 5 ⟨s.toArray⟩).cell? ⟨w.heap.size,j,none⟩=some (.int .u8 (s.getD j 0).toNat):=fun j hj=>Lib.bytesWorld_cell w 5 ⟨s.toArray⟩ j (by show j<s.toArray.size;simp;omega);have gJ:Fr NoB w (Lib.bytesWorld w 5 ⟨s.toArray⟩):=Fr.iw (Lib.below_freeze (((Below.refl _ w).drew).alloc (Nat.le_refl _) _) (Nat.le_refl _) _);obtain ⟨W1,hW1⟩:∃ W1,W1=Lib.bytesWorld w 5 ⟨s.toArray⟩:=⟨_,rfl⟩;rw [<- hW1] at iE hB gJ;clear hW1;have hmv:IntKind.u64.wrap (IntKind.u64.wrap 65536 - 1)=65535:=by
  rw [IntKind.wrap_u64,IntKind.wrap_u64];decide
 have H4:=hd' h4;have Xb:s.length<=4:=by omega
 clear h4;go_enter Tryz.func290,Tryz.ntmps290;go_wp2;go_loop [12,13,101] (fun vu vn vi=>∃ (k:Nat) (a:Int),vu=.bool false/\vn=.int .u64 a/\vi=.int .i64 k/\k<=s.length/\0<=a/\Hid (a=(qI (s.take k):Int))) (fun _ _ vi=>s.length - (intOf vi).toNat)
 case atStart=>exact ⟨0,0,rfl,rfl,rfl,by omega,by omega,rfl⟩
 case round=>
  obtain ⟨k,a,rfl,rfl,rfl,hk,ha,Ha⟩:=hrel;by_cases hlt:k<s.length
  ·have hc:=hB k (by rw [H4.out] at hlt;exact hlt);have Xc:s.getD k 0=s[k]:=by simp [List.getD,List.getElem?_eq_getElem hlt]
   rw [Xc] at hc;have H6:=hh s[k] (List.getElem_mem hlt);have hsn:s.take (k+1)=s.take k++[s[k]]:=List.take_succ_eq_append_getElem hlt;have hN:=pD s (k+1) H4.out (by have:=H4.out;omega) hh;rw [hsn,wj] at hN;have HN:Hid (a*16+(cM s[k]:Int)=(qI (s.take (k+1)):Int)):=hd' (by rw [hsn,wj,Ha.out];omega);have hb:a*16+(cM s[k]:Int)<65536:=by rw [Ha.out];omega
   clear Xc hsn hN hB;generalize s[k]=c at hc H6 HN hb;have WY:c.toNat<256:=c.toNat_lt;by_cases hd:48<=c.toNat/\c.toNat<=57
   ·have e:=H5 c hd;rw [e] at HN hb;obtain ⟨UE,hd1⟩:=hd;clear e H6;go_wp2;exact ⟨⟨k+1,_,rfl,rfl,by go_num,by omega,by omega,HN⟩,by simp [intOf];omega⟩
   ·obtain ⟨hl,yD⟩:=H0 c H6 hd;(have hv:(cM c:Int)<16:=by omega);(have MF:10<=(cM c:Int):=by omega);have ach:¬ (c.toNat:Int)=95:=by
     intro e;(have:c=95:=by apply UInt8.toNat_inj.1;show c.toNat=95;omega);subst this;revert H6;decide
    have hub:((c.toNat:Int)==95)=false:=beq_eq_false_iff_ne.2 ach;generalize cM c=v at hl hv MF HN hb H6 yD;clear H6 yD;by_cases hd2:48<=c.toNat
    ·have hd3:¬ c.toNat<=57:=fun e=>hd ⟨hd2,e⟩;clear hd;go_wp2_with (go_at_call 298;((with_reducible refine (wm _ _).mono ?_);rintro e w' ⟨rfl,rfl⟩));exact ⟨⟨k+1,_,rfl,rfl,by go_num,by omega,by omega,hd' (by rw [<- HN.out];omega)⟩,by simp [intOf];omega⟩
    ·clear hd;go_wp2_with (go_at_call 298;((with_reducible refine (wm _ _).mono ?_);rintro e w' ⟨rfl,rfl⟩));exact ⟨⟨k+1,_,rfl,rfl,by go_num,by omega,by omega,hd' (by rw [<- HN.out];omega)⟩,by simp [intOf];omega⟩
  ·obtain rfl:k=s.length:=by omega
   have Xd:a=(qI s:Int):=by have:=Ha.out;rwa [List.take_length] at this
   have aci:=hd' Xd;clear Xd hB;go_wp2;go_ret2;exact ⟨by rw [aci.out];rfl,gJ⟩
theorem OX (s:Bs) (w:World) (h4:s.length=4) (hh:∀ c∈s,cM c<16) :
  Calls Tryz.prog 263 #[.string ⟨s.toArray⟩,.int .i64 16,.int .i64 16] w fun e w'=>e=.returned (.tuple #[.int .u64 (qI s),.nilIface])/\Fr NoB w w':=by
 have H4:=hd' h4;clear h4;go_enter Tryz.func263,Tryz.ntmps263;go_wp2_with (go_at_call 290;((with_reducible refine (LC s _ H4.out hh).mono ?_);rintro e w1 ⟨rfl,f1⟩));go_ret2;exact ⟨rfl,f1⟩
theorem rX (s:Bs):eL s=if Lib.hasPrefix s [92,117]=true/\4<=(s.drop 2).length/\(∀ c∈(s.drop 2).take 4,cM c<16) then some (qI ((s.drop 2).take 4),(s.drop 2).drop 4) else none:=by
 unfold eL;split
 ·rename_i x y a b c d r
  by_cases h:x=92/\y=117/\cM a<16/\cM b<16/\cM c<16/\cM d<16
  ·rw [if_pos h,if_pos ⟨by obtain ⟨rfl,rfl,_⟩:=h;rfl,by simp,by simpa using h.2.2⟩];simp only [List.drop_succ_cons,List.drop_zero,List.take_succ_cons,List.take_zero,qI,List.foldl_cons,List.foldl_nil]
   congr 2;omega
  ·rw [if_neg h,if_neg];rintro ⟨h1,-,h3⟩;apply h;simp [Lib.hasPrefix,List.isPrefixOf] at h1 h3;exact ⟨h1.1.symm,h1.2.symm,h3⟩
 ·rename_i CX
  rw [if_neg];rintro ⟨-,h2,-⟩
  match s,CX,h2 with
  | [],_,h2=>simp at h2
  | [_],_,h2=>simp at h2
  | [_,_],_,h2=>simp at h2
  | [_,_,_],_,h2=>simp at h2
  | [_,_,_,_],_,h2=>simp at h2
  | [_,_,_,_,_],_,h2=>simp at h2
  | x::y::a::b::c::d::r,CX,_=>exact CX x y a b c d r rfl
theorem OY (c:UInt8):[48,49,50,51,52,53,54,55,56,57,97,98,99,100,101,102,65,66,67,68,69,70].contains c=decide (cM c<16):=by
 simpa using eF (p:=fun c=>[48,49,50,51,52,53,54,55,56,57,97,98,99,100,101,102,65,66,67,68,69,70].contains c==decide (cM c<16)) (by decide +kernel) c
theorem wu {p:UInt8->Bool} {l:Bs}:l.dropWhile p=[] ↔ ∀ c∈l,p c=true:=by
 induction l with
 | nil=>simp
 | cons c r ih=>
  rw [List.dropWhile_cons];split
  ·rename_i h;rw [ih];simp [h]
  ·rename_i h;simp [h]
theorem AK (l:Bs):(Lib.trimS l [48,49,50,51,52,53,54,55,56,57,97,98,99,100,101,102,65,66,67,68,69,70]=[]) ↔ ∀ c∈l,cM c<16:=by
 unfold Lib.trimS Lib.trimLeftS Lib.trimRightS;rw [show (fun c:UInt8=>[48,49,50,51,52,53,54,55,56,57,97,98,99,100,101,102,65,66,67,68,69,70].contains c)=(fun c=>decide (cM c<16)) from funext OY];rw [wu];constructor
 ·intro h c hc;by_cases hn:∀ c∈l,cM c<16
  ·exact hn c hc
  ·exfalso;have h2:l.reverse.dropWhile (fun c=>decide (cM c<16))≠[]:=by
    intro e;rw [wu] at e;exact hn fun c hc=>by simpa using e c (by simpa using hc)
   obtain ⟨x,r,hx⟩:=List.exists_cons_of_ne_nil h2;have h3:decide (cM x<16)=false:=by
    have:=List.head?_dropWhile_not (fun c:UInt8=>decide (cM c<16)) l.reverse;rw [hx] at this;simpa using this
   have:=h x (by rw [hx];simp);rw [h3] at this;cases this
 ·intro h c hc;simp only [List.mem_reverse] at hc;have:=(List.dropWhile_sublist _).subset hc;simpa using h c (by simpa using this)
theorem jm (b:Nat) (s t:Bs) (n:Nat) (w:World) (h:Rd w b s) (_hs:s.length<=65536) (hu:eL s=some (n,t)) :
  Calls Tryz.prog 244 #[.pointer (some ⟨b,0,none⟩)] w fun e w'=>e=.returned (.int .i64 n)/\rW w b t w':=by
 rw [rX] at hu;split at hu
 ·rename_i hc
  obtain ⟨hp,hl,hx⟩:=hc;cases hu;have OZ:=hd' ((AK _).2 hx);have hc:=h.cell;have hN:qI ((s.drop 2).take 4)<65536:=by
   have:=pD ((s.drop 2).take 4) 4 (by simp at hl ⊢;omega) (by omega) hx;rwa [List.take_take] at this
  simp only [List.length_drop] at hl;have JC:((s.drop 2).take 4).length=4:=by simp;omega
  have HX:=hd' hx;have Hl2:=hd' JC;clear hx JC;have uY:=lT (s.drop 2) 4;have hxd:((⟨(s.drop 2).toArray⟩:ByteArray).extract 4 (s.length - 2))=⟨((s.drop 2).drop 4).toArray⟩:=by have:=iu (s.drop 2) 4;simpa using this
  go_enter Tryz.func244,Tryz.ntmps244;go_wp2_with (first|(go_at_call 211;((with_reducible refine (eT s [92,117] _ hp).mono ?_);rintro e w1 ⟨rfl,rfl⟩))|(go_at_call 262;((with_reducible refine (zA _ [48,49,50,51,52,53,54,55,56,57,97,98,99,100,101,102,65,66,67,68,69,70] _ (by simp;omega) (by decide) (by decide)).mono ?_);rintro e w1 ⟨rfl,f1⟩;rw [OZ.out]))|(go_at_call 130;((with_reducible refine (ov _ _).mono ?_);rintro e w2 ⟨rfl,rfl⟩))|(go_at_call 263;((with_reducible refine (OX _ _ Hl2.out HX.out).mono ?_);rintro e w2 ⟨rfl,f2⟩;have r2:=(h.fr f1 (fun e=>e)).fr f2 (fun e=>e);have c2:=r2.cell;have z2:=r2.frozen)));go_ret;exact ⟨rfl,((f1.trans f2).cT).only _,by have:=r2.set ((s.drop 2).drop 4);simpa using this⟩
 ·cases hu
theorem DU (b:Nat) (s:Bs) (w:World) (h:Rd w b s) (_hs:s.length<=65536) (hu:eL s=none) :
  Calls Tryz.prog 244 #[.pointer (some ⟨b,0,none⟩)] w fun e w'=>e=Wr 90/\Fr NoB w w':=by
 rw [rX] at hu;have hc:=h.cell;by_cases hp:Lib.hasPrefix s [92,117]=true
 ·by_cases hl:4<=(s.drop 2).length
  ·have hx:¬ ∀ c∈(s.drop 2).take 4,cM c<16:=fun hx=>by rw [if_pos ⟨hp,hl,hx⟩] at hu;cases hu
   have OZ:Lib.trimS ((s.drop 2).take 4) [48,49,50,51,52,53,54,55,56,57,97,98,99,100,101,102,65,66,67,68,69,70]≠[]:=fun e=>hx ((AK _).1 e);clear hu hx;simp only [List.length_drop] at hl;have uY:=lT (s.drop 2) 4;generalize hT:Lib.trimS ((s.drop 2).take 4) [48,49,50,51,52,53,54,55,56,57,97,98,99,100,101,102,65,66,67,68,69,70]=T at OZ;have HT:=hd' hT;clear hT;have hT2:T.isEmpty=false:=by cases T with|nil=>exact absurd rfl OZ|cons c r=>rfl
   have hT3:(T==[])=false:=by cases T with|nil=>exact absurd rfl OZ|cons c r=>rfl
   clear OZ;go_enter Tryz.func244,Tryz.ntmps244;go_wp2_with (first|(go_at_call 211;((with_reducible refine (eT s [92,117] _ hp).mono ?_);rintro e w1 ⟨rfl,rfl⟩))|(go_at_call 262;((with_reducible refine (zA _ [48,49,50,51,52,53,54,55,56,57,97,98,99,100,101,102,65,66,67,68,69,70] _ (by simp;omega) (by decide) (by decide)).mono ?_);rintro e w1 ⟨rfl,f1⟩;rw [HT.out]))|(go_at_call 130;((with_reducible refine (gj _ _).mono ?_);rintro e w2 ⟨rfl,rfl⟩)));exact ⟨rfl,rfl,f1⟩
  ·clear hu;simp only [List.length_drop] at hl;go_enter Tryz.func244,Tryz.ntmps244;go_wp2_with (first|(go_at_call 211;((with_reducible refine (eT s [92,117] _ hp).mono ?_);rintro e w1 ⟨rfl,rfl⟩))|(go_at_call 130;((with_reducible refine (gj _ _).mono ?_);rintro e w2 ⟨rfl,rfl⟩)));exact ⟨rfl,rfl,Fr.refl _ _⟩
 ·have ph:Lib.hasPrefix s [92,117]=false:=by simpa using hp
  clear hu hp;go_enter Tryz.func244,Tryz.ntmps244;go_wp2_with (first|(go_at_call 211;((with_reducible refine (kL s [92,117] _ ph).mono ?_);rintro e w1 ⟨rfl,rfl⟩))|(go_at_call 130;((with_reducible refine (gj _ _).mono ?_);rintro e w2 ⟨rfl,rfl⟩)));exact ⟨rfl,rfl,Fr.refl _ _⟩
end Go.Proofs.YtbifjamddbpcjaaGreatDoor
