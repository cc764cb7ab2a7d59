/- JSON: the program's reader: blanks, take, digits, number, exact. -/
import Derived.Test.YtbifjamddbpcjaaGreatDoorLib
import Derived.Test.YtbifjamddbpcjaaGreatDoorJl
import Derived.StillTailTactics
import Derived.Deep.DeepCutAuto
import Derived.Lib.AtoiAllCases
import Derived.Lib.ConvBytes
namespace Go.Proofs.YtbifjamddbpcjaaGreatDoor
set_option maxRecDepth 100000
set_option maxHeartbeats 25600000
open Go.RowKit
def Rd (w:World) (b:Nat) (s:Bs):Prop:=Blk w b 189 #[.string ⟨s.toArray⟩]
theorem Rd.fr {S:Nat→Prop} {w w':World} {b:Nat} {s:Bs} (h:Rd w b s) (f:Fr S w w') (hs:¬ S b):Rd w' b s:=f.blk h hs
theorem Rd.set {w:World} {b:Nat} {s:Bs} (h:Rd w b s) (t:Bs):Rd (w.setCell ⟨b,0,none⟩ (.string ⟨t.toArray⟩)) b t:=by
 have:=Blk.set_ h 0 (.string ⟨t.toArray⟩)
 unfold Rd;simpa using this
section
variable {w:World} {b:Nat} {s:Bs}
theorem Rd.cell (h:Rd w b s):w.cell? ⟨b,0,none⟩=some (.string ⟨s.toArray⟩):=(Blk.cell h 0).trans rfl
theorem Rd.frozen (h:Rd w b s):w.frozen? ⟨b,0,none⟩=false:=Blk.frozen h 0
theorem Rd.lt (h:Rd w b s):b<w.heap.size:=Blk.lt h
end
def Goes (w:World) (b:Nat) (t:Bs) (w':World):Prop:=Fr (Only b) w w'∧Rd w' b t
theorem blanks_any (b:Nat) (s:Bs) (w:World) (h:Rd w b s) :
  Calls Tryz.prog 128 #[.pointer (some ⟨b,0,none⟩)] w fun e w'=>e=.returned (.tuple #[])∧Goes w b (blanks s) w':=by
 have hc:=h.cell
 go_enter Tryz.func128,Tryz.ntmps128
 go_wp2_with (go_at_call 173;refine (trimLeft_any s [32,9,10,13] _ (by decide) (by decide)).mono ?_;rintro e w1 ⟨rfl,f1⟩;have r1:=h.fr f1 (fun e=>e);have c1:=r1.cell;have z1:=r1.frozen)
 go_end0
 exact ⟨rfl,(f1.noB).only _,r1.set _⟩
theorem take_yes (b:Nat) (s p:Bs) (w:World) (h:Rd w b s) (hp:Lib.hasPrefix s p=true) :
  Calls Tryz.prog 176 #[.pointer (some ⟨b,0,none⟩),.string ⟨p.toArray⟩] w fun e w'=>e=.returned (.bool true)∧Goes w b (blanks (s.drop p.length)) w':=by
 have hc:=h.cell
 have hz:=h.frozen
 have h2:=h.set (s.drop p.length)
 go_enter Tryz.func176,Tryz.ntmps176
 go_wp2_with (first|(go_at_call 211;refine (cutPrefix_yes s p _ hp).mono ?_;rintro e w1 ⟨rfl,rfl⟩)|(go_at_call 128;refine (blanks_any b _ _ h2).mono ?_;rintro e w1 ⟨rfl,f1,r1⟩))
 go_ret
 exact ⟨rfl,((Fr.refl _ w).only _).trans f1,r1⟩
theorem take_no (b:Nat) (s p:Bs) (w:World) (h:Rd w b s) (hp:Lib.hasPrefix s p=false) :
  Calls Tryz.prog 176 #[.pointer (some ⟨b,0,none⟩),.string ⟨p.toArray⟩] w fun e w'=>e=.returned (.bool false)∧w=w':=by
 have hc:=h.cell
 go_enter Tryz.func176,Tryz.ntmps176
 go_wp2_with (go_at_call 211;refine (cutPrefix_no s p _ hp).mono ?_;rintro e w1 ⟨rfl,rfl⟩)
 go_ret
 exact ⟨rfl,rfl⟩
theorem digs_trim (s:Bs):(s.length:Int) - (Lib.trimLeftS s [48,49,50,51,52,53,54,55,56,57]).length=digs s:=by
 have e:∀ c:UInt8,[48,49,50,51,52,53,54,55,56,57].contains c=isDig c:=fun c=>by simpa using forall_u8 (p:=fun c=>[48,49,50,51,52,53,54,55,56,57].contains c==isDig c) (by decide +kernel) c
 unfold digs Lib.trimLeftS
 rw [show (fun c:UInt8=>[48,49,50,51,52,53,54,55,56,57].contains c)=isDig from funext e]
 have:=List.takeWhile_append_dropWhile (p:=isDig) (l:=s)
 have h2:=congrArg List.length this
 simp only [List.length_append] at h2
 omega
theorem digits_any (s:Bs) (w:World) (hs:s.length≤281474976710656) :
  Calls Tryz.prog 214 #[.string ⟨s.toArray⟩] w fun e w'=>e=.returned (.int .i64 (digs s))∧Fr NoB w w':=by
 have H:=Lib.hid (digs_trim s)
 go_enter Tryz.func214,Tryz.ntmps214
 go_wp2_with (go_at_call 173;refine (trimLeft_any s [48,49,50,51,52,53,54,55,56,57] _ (by decide) (by decide)).mono ?_;rintro e w1 ⟨rfl,f1⟩)
 go_ret
 have hd:digs s≤s.length:=by unfold digs;exact (List.takeWhile_sublist _).length_le
 exact ⟨ret_int (by rw [H.out];exact IntWalk.wrap64_in _ ⟨by omega,by omega⟩),f1⟩
theorem minusP_no {s:Bs} (h:Lib.hasPrefix s [45]=false):minusP s=0:=by
 unfold minusP Lib.hasPrefix at *
 cases s with
 | nil=>rfl
 | cons c r=>simp [List.isPrefixOf] at h ⊢;exact fun e=>h e.symm
theorem minusP_yes {s:Bs} (h:Lib.hasPrefix s [45]=true):minusP s=1∧1≤s.length:=by
 unfold minusP Lib.hasPrefix at *
 cases s with
 | nil=>simp at h
 | cons c r=>simp at h ⊢;exact h.symm
theorem wholeP_zero {s:Bs}:wholeP s=0 ↔ digs s=0:=by
 unfold wholeP
 split
 ·rename_i h
  cases s with
  | nil=>simp at h
  | cons c r=>simp at h;subst h;simp [digs,isDig]
 ·rfl
theorem numP_none {s:Bs} {i:Nat} (hi:minusP s=i) (hn:digs (s.drop i)=0):numP s=0:=by
 unfold numP
 rw [hi]
 simp [wholeP_zero.2 hn]
theorem drop_at {s:Bs} {i:Nat} (h:i<s.length):s.drop i=s[i]::s.drop (i+1):=List.drop_eq_getElem_cons h
theorem whole_at {s:Bs} {i n:Nat} (h:i<s.length) (hn:digs (s.drop i)=n):wholeP (s.drop i)=if s[i]=48 then 1 else n:=by
 rw [wholeP,drop_at h]
 simp only [List.head?_cons,Option.some.injEq]
 rw [← drop_at h,hn]
theorem frac_no {s:Bs} (h:Lib.hasPrefix s [46]=false):fracP s=0:=by
 unfold Lib.hasPrefix at h
 cases s with
 | nil=>rfl
 | cons c r=>simp [List.isPrefixOf] at h;simp [fracP];intro e;exact absurd e.symm h
theorem frac_yes {s:Bs} (h:Lib.hasPrefix s [46]=true):1≤s.length∧fracP s=if 0<digs (s.drop 1) then 1+digs (s.drop 1) else 0:=by
 unfold Lib.hasPrefix at h
 cases s with
 | nil=>simp at h
 | cons c r=>simp [List.isPrefixOf] at h;subst h;simp [fracP]
theorem exp_end {s:Bs} {k:Nat} (h:¬ k<s.length):expP (s.drop k)=0:=by
 rw [List.drop_eq_nil_of_le (by omega)];rfl
theorem exp_no {s:Bs} {k:Nat} (h:k<s.length) (h1:s[k]≠101) (h2:s[k]≠69):expP (s.drop k)=0:=by
 rw [drop_at h];simp [expP,h1,h2]
theorem exp_at {s:Bs} {k:Nat} (h:k<s.length) (h1:s[k]=101∨s[k]=69) :
  expP (s.drop k)=if 0<digs (s.drop (k+1+signP (s.drop (k+1)))) then 1+signP (s.drop (k+1))+digs (s.drop (k+1+signP (s.drop (k+1)))) else 0:=by
 rw [drop_at h]
 simp only [expP,h1,true_and,List.drop_drop]
theorem sign_end {s:Bs} {k:Nat} (h:¬ k<s.length):signP (s.drop k)=0:=by
 rw [List.drop_eq_nil_of_le (by omega)];rfl
theorem sign_at {s:Bs} {k:Nat} (h:k<s.length):signP (s.drop k)=if s[k]=43∨s[k]=45 then 1 else 0:=by
 rw [drop_at h];rfl
theorem numP_some {s:Bs} {i m k:Nat} (hi:minusP s=i) (hm:wholeP (s.drop i)=m) (h0:0<m) (hk:i+m+fracP (s.drop (i+m))=k):numP s=k+expP (s.drop k):=by
 unfold numP
 rw [hi]
 simp only [hm,hk]
 rw [if_neg (by omega)]
theorem jnumber_any (s:Bs) (w:World) (hs:s.length≤281474976710656) :
  Calls Tryz.prog 178 #[.string ⟨s.toArray⟩] w fun e w'=>e=.returned (.int .i64 (numP s))∧Fr NoB w w':=by
 have hx:=ext_drop s
 have hg:=get_list s
 go_enter Tryz.func178,Tryz.ntmps178
 go_upto_if 9 with (go_at_call 174;refine (hasPrefix_any s [45] _).mono ?_;rintro e w' ⟨rfl,rfl⟩)
 go_cut [3] (fun v3 wx=>(∃ i:Nat,i≤s.length∧Hid (minusP s=i)∧v3=.int .i64 i)∧w=wx)
 case first=>
  clear hx hg
  cases hm:Lib.hasPrefix s [45]
  ·have h0:minusP s=0:=minusP_no hm
   go_wp2_with fail
   go_meet
   exact ⟨⟨0,Nat.zero_le _,Lib.hid h0,rfl⟩,rfl⟩
  ·obtain ⟨h0,h1⟩:=minusP_yes hm
   go_wp2_with fail
   go_meet
   exact ⟨⟨1,h1,Lib.hid h0,rfl⟩,rfl⟩
 case rest=>
  obtain ⟨⟨i,hi,Hi,rfl⟩,rfl⟩:=hcut
  go_upto_if 15 with (go_at_call 214;with_reducible refine (digits_any (s.drop i) _ (by simp;omega)).mono ?_;rintro e w1 ⟨rfl,f1⟩)
  generalize hn:digs (s.drop i)=n
  have Hn:=Lib.hid hn
  have hnl:i+n≤s.length:=by have:=digs_le (s.drop i);simp at this;omega
  clear hn
  by_cases hn0:n=0
  ·subst hn0
   have hf:numP s=0:=numP_none Hi.out Hn.out
   have Hf:=Lib.hid hf
   clear hf
   go_wp2_with fail
   go_ret
   exact ⟨ret_int (by rw [Hf.out];rfl),f1⟩
  ·have hb0:((n:Int)==0)=false:=beq_eq_false_iff_ne.2 (by omega)
   have hil:i<s.length:=by omega
   go_upto_if 19 with fail
   go_cut [4] (fun v4 wx=>(∃ m:Nat,0<m∧i+m≤s.length∧Hid (wholeP (s.drop i)=m)∧v4=.int .i64 m)∧w1=wx)
   case first=>
    have hwh:=Lib.hid (whole_at hil Hn.out)
    by_cases hz:s[i]=48
    ·have hzb:((s[i].toNat:Int)==48)=true:=by rw [hz];rfl
     go_wp2_with fail
     go_meet
     exact ⟨⟨1,by omega,by omega,Lib.hid (by rw [hwh.out,if_pos hz]),rfl⟩,rfl⟩
    ·have hzb:((s[i].toNat:Int)==48)=false:=u8_ne 48 (by omega) hz
     go_wp2_with fail
     go_meet
     exact ⟨⟨n,by omega,by omega,Lib.hid (by rw [hwh.out,if_neg hz]),rfl⟩,rfl⟩
   case rest=>
    obtain ⟨⟨m,hm0,hml,Hm,rfl⟩,rfl⟩:=hcut
    clear hn0 hb0 hnl Hn
    go_upto_if 26 with (go_at_call 174;with_reducible refine (hasPrefix_any (s.drop (i+m)) [46] _).mono ?_;rintro e w2 ⟨rfl,rfl⟩)
    go_cut [3] (fun v3 wx=>(∃ k:Nat,k≤s.length∧Hid (i+m+fracP (s.drop (i+m))=k)∧v3=.int .i64 k)∧Fr NoB w wx)
    case first=>
     cases hp:Lib.hasPrefix (s.drop (i+m)) [46]
     ·have hfr:=frac_no hp
      go_wp2_with fail
      go_meet
      exact ⟨⟨i+m,hml,Lib.hid (by rw [hfr];rfl),by go_num⟩,f1⟩
     ·obtain ⟨hfl,hfr0⟩:=frac_yes hp
      simp only [List.length_drop] at hfl
      rw [List.drop_drop] at hfr0
      have hdl:=digs_le (s.drop (i+m+1))
      simp only [List.length_drop] at hdl
      have hfr:=Lib.hid hfr0
      clear hfr0
      go_wp2_with (go_at_call 214;with_reducible refine (digits_any (s.drop (i+m+1)) _ (by simp;omega)).mono ?_;rintro e w3 ⟨rfl,f3⟩)
      ·have hpos:0<digs (s.drop (i+m+1)):=by assumption
       go_meet
       exact ⟨⟨i+m+(1+digs (s.drop (i+m+1))),by omega,Lib.hid (by rw [hfr.out,if_pos hpos]),by go_num⟩,f1.trans f3⟩
      ·have hpos:¬ 0<digs (s.drop (i+m+1)):=by assumption
       go_meet
       exact ⟨⟨i+m,by omega,Lib.hid (by rw [hfr.out,if_neg hpos];rfl),by go_num⟩,f1.trans f3⟩
    case rest=>
     obtain ⟨⟨k,hkl,Hk,rfl⟩,f2⟩:=hcut
     have Hf:=Lib.hid (numP_some Hi.out Hm.out hm0 Hk.out)
     clear Hi Hm Hk hm0 hml hi hil f1
     by_cases hk:k<s.length
     ·by_cases hE:s[k]=101∨s[k]=69
      ·have hex:=exp_at hk hE
       have hdl:=digs_le (s.drop (k+1+signP (s.drop (k+1))))
       simp only [List.length_drop] at hdl
       generalize hsg:signP (s.drop (k+1))=sg at hex hdl
       have Hsg:=Lib.hid hsg
       generalize hdg:digs (s.drop (k+1+sg))=dg at hex hdl
       have Hdg:=Lib.hid hdg
       have Hex:=Lib.hid hex
       clear hex hsg hdg
       have hsl:k+1+sg≤s.length:=by
        rw [← Hsg.out]
        by_cases h1:k+1<s.length
        ·rw [sign_at h1];split<;>omega
        ·rw [sign_end h1];omega
       have hE1:(((s[k].toNat:Int)==101)=true)∨(((s[k].toNat:Int)==101)=false∧((s[k].toNat:Int)==69)=true):=by
        rcases hE with h|h
        ·exact Or.inl (by rw [h];rfl)
        ·exact Or.inr ⟨by rw [h];rfl,by rw [h];rfl⟩
       clear hE
       rcases hE1 with hE1|⟨hE1,hE2⟩
       all_goals
        go_upto_region 16 with fail
        go_cut [71] (fun v wx=>v=.bool (decide (sg=1))∧Fr NoB w wx)
        case first=>
         clear Hex Hdg hdl hE1
         by_cases h1:k+1<s.length
         ·have hsg:=sign_at h1
          rw [Hsg.out] at hsg
          by_cases h43:s[k+1]=43
          ·have hb:((s[k+1].toNat:Int)==43)=true:=by rw [h43];rfl
           obtain rfl:sg=1:=by rw [hsg,if_pos (Or.inl h43)]
           clear hsg
           go_wp2_with fail
           go_meet
           exact ⟨rfl,f2⟩
          ·by_cases h45:s[k+1]=45
           ·have hb:((s[k+1].toNat:Int)==43)=false:=by rw [h45];rfl
            have hb2:((s[k+1].toNat:Int)==45)=true:=by rw [h45];rfl
            obtain rfl:sg=1:=by rw [hsg,if_pos (Or.inr h45)]
            clear hsg
            go_wp2_with fail
            go_meet
            exact ⟨rfl,f2⟩
           ·have hb:((s[k+1].toNat:Int)==43)=false:=u8_ne 43 (by omega) h43
            have hb2:((s[k+1].toNat:Int)==45)=false:=u8_ne 45 (by omega) h45
            obtain rfl:sg=0:=by rw [hsg,if_neg (by rintro (h|h);exact h43 h;exact h45 h)]
            clear hsg
            go_wp2_with fail
            go_meet
            exact ⟨rfl,f2⟩
         ·have hsg:=sign_end h1
          rw [Hsg.out] at hsg
          subst hsg
          go_wp2_with fail
          go_meet
          exact ⟨rfl,f2⟩
        case rest=>
         obtain ⟨rfl,f3⟩:=hcut
         clear hE1 f2
         have hsg1:sg=0∨sg=1:=by
          rw [← Hsg.out]
          by_cases h1:k+1<s.length
          ·rw [sign_at h1];split<;>omega
          ·rw [sign_end h1];omega
         clear Hsg
         rcases hsg1 with rfl|rfl
         ·simp only [show decide (0=1)=false from rfl]
          have Hd:Hid (digs (s.drop (k+1))=dg):=Lib.hid Hdg.out
          clear Hdg
          by_cases hd0:0<dg
          ·go_wp2_with (go_at_call 214;((with_reducible refine (digits_any (s.drop (k+1)) _ (by simp;omega)).mono ?_);rintro e w3 ⟨rfl,f4⟩;rw [Hd.out]))
           go_ret
           exact ⟨ret_int (by rw [Hf.out,Hex.out,if_pos hd0];omega),f3.trans f4⟩
          ·go_wp2_with (go_at_call 214;((with_reducible refine (digits_any (s.drop (k+1)) _ (by simp;omega)).mono ?_);rintro e w3 ⟨rfl,f4⟩;rw [Hd.out]))
           go_ret
           exact ⟨ret_int (by rw [Hf.out,Hex.out,if_neg hd0];rfl),f3.trans f4⟩
         ·simp only [decide_true]
          have Hd:=Hdg
          clear Hdg
          by_cases hd0:0<dg
          ·go_wp2_with (go_at_call 214;((with_reducible refine (digits_any (s.drop (k+1+1)) _ (by simp;omega)).mono ?_);rintro e w3 ⟨rfl,f4⟩;rw [Hd.out]))
           go_ret
           exact ⟨ret_int (by rw [Hf.out,Hex.out,if_pos hd0];omega),f3.trans f4⟩
          ·go_wp2_with (go_at_call 214;((with_reducible refine (digits_any (s.drop (k+1+1)) _ (by simp;omega)).mono ?_);rintro e w3 ⟨rfl,f4⟩;rw [Hd.out]))
           go_ret
           exact ⟨ret_int (by rw [Hf.out,Hex.out,if_neg hd0];rfl),f3.trans f4⟩
      ·have hE1:((s[k].toNat:Int)==101)=false:=u8_ne 101 (by omega) (fun h=>hE (Or.inl h))
       have hE2:((s[k].toNat:Int)==69)=false:=u8_ne 69 (by omega) (fun h=>hE (Or.inr h))
       have hex:=Lib.hid (exp_no hk (fun h=>hE (Or.inl h)) (fun h=>hE (Or.inr h)))
       clear hE
       go_wp2_with fail
       go_ret
       exact ⟨ret_int (by rw [Hf.out,hex.out];rfl),f2⟩
     ·have hex:=Lib.hid (exp_end hk)
      go_wp2_with fail
      go_ret
      exact ⟨ret_int (by rw [Hf.out,hex.out];rfl),f2⟩
def BadX (w:World) (e:Ending) (w':World):Prop:=∃ x:Int,e=.returned (.tuple #[.int .i64 x,.bool false])∧Fr NoB w w'
theorem exact_yes {B:Nat} (s:Bs) (n:Int) (w:World) (hx:Cx B w) (hs:s.length≤281474976710656) (h:exactP s=some n) :
  Calls Tryz.prog 179 #[.string ⟨s.toArray⟩] w fun e w'=>e=.returned (.tuple #[.int .i64 n,.bool true])∧Fr NoB w w':=by
 have h3:Lib.atoiAll s=.ok n∧Lib.itoa n=s∧n≤maxInt ∧ -maxInt≤n:=by
  unfold exactP at h
  split at h
  ·rename_i m hm
   split at h
   ·rename_i hc;cases h;exact ⟨hm,hc⟩
   ·cases h
  ·cases h
 unfold maxInt at h3
 obtain ⟨hq,hi0,hb1,hb2⟩:=h3
 have HQ:=Lib.hid hq
 clear hq h
 go_enter Tryz.func179,Tryz.ntmps179
 go_wp2_with (first|(go_at_call 215;((with_reducible refine (atoi_ok s _ hs n HQ.out).mono ?_);rintro e w1 ⟨rfl,f1⟩))|(go_at_call 100;((with_reducible refine (itoa_any n (by omega) (by omega) _ (hx.fr0 f1)).mono ?_);rintro e w2 ⟨rfl,f2⟩)))
 go_ret2
 exact ⟨rfl,f1.trans f2⟩
theorem exact_no {B:Nat} (s:Bs) (w:World) (hx:Cx B w) (hs:s.length≤281474976710656) (h:exactP s=none) :
  Calls Tryz.prog 179 #[.string ⟨s.toArray⟩] w (BadX w):=by
 cases hq:Lib.atoiAll s with
 | ok n=>
  obtain ⟨hb1,hb2⟩:=Lib.atoiAll_bounds hq
  have h3:¬ (Lib.itoa n=s∧n≤maxInt ∧ -maxInt≤n):=by
   intro hc
   unfold exactP at h
   rw [hq] at h
   simp [hc] at h
  unfold maxInt at h3
  have HQ:=Lib.hid hq
  clear hq h
  go_enter Tryz.func179,Tryz.ntmps179
  go_wp2_with (first|(go_at_call 215;((with_reducible refine (atoi_ok s _ hs n HQ.out).mono ?_);rintro e w1 ⟨rfl,f1⟩))|(go_at_call 100;((with_reducible refine (itoa_any n (by omega) (by omega) _ (hx.fr0 f1)).mono ?_);rintro e w2 ⟨rfl,f2⟩)))
  all_goals go_ret2
  ·have e1:Lib.itoa n=s:=by assumption
   have e2:n≤9007199254740991:=by assumption
   have e3:¬ -9007199254740991≤n:=fun e=>h3 ⟨e1,e2,e⟩
   exact ⟨n,by simp [e3],f1.trans f2⟩
  ·exact ⟨n,rfl,f1.trans f2⟩
  ·exact ⟨n,rfl,f1.trans f2⟩
 | _=>
  have Hno:Hid (∀ n,Lib.atoiAll s≠.ok n):=Lib.hid (by rw [hq];intro n h;cases h)
  clear h hq
  go_enter Tryz.func179,Tryz.ntmps179
  go_wp2_with (go_at_call 215;((with_reducible refine (atoi_no s _ hx hs Hno.out).mono ?_);rintro e w1 ⟨x,T,p,rfl,f1⟩))
  go_ret2
  exact ⟨x,rfl,f1⟩
def hexN (l:Bs):Nat:=l.foldl (fun a c=>16*a+hexV c) 0
theorem hexN_snoc (l:Bs) (c:UInt8):hexN (l++[c])=16*hexN l+hexV c:=by simp [hexN]
theorem hexN_lt:∀ (l:Bs) (a:Nat),(∀ c∈l,hexV c<16)→l.foldl (fun a c=>16*a+hexV c) a<16 ^ l.length*(a+1)
 | [],a,_=>by simp
 | c::r,a,h=>by
  have ih:=hexN_lt r (16*a+hexV c) (fun x hx=>h x (List.mem_cons_of_mem _ hx))
  have hc:=h c List.mem_cons_self
  simp only [List.foldl_cons,List.length_cons,Nat.pow_succ]
  refine Nat.lt_of_lt_of_le ih ?_
  rw [Nat.mul_assoc]
  exact Nat.mul_le_mul_left _ (by omega)
theorem hexN_take (s:Bs) (k:Nat) (h4:s.length=4) (hk:k≤4) (h:∀ c∈s,hexV c<16):hexN (s.take k)<65536:=by
 have:=hexN_lt (s.take k) 0 (fun c hc=>h c (List.mem_of_mem_take hc))
 have e:(s.take k).length=k:=by simp;omega
 rw [e] at this
 refine Nat.lt_of_lt_of_le this ?_
 have:(16:Nat) ^ k≤16 ^ 4:=Nat.pow_le_pow_right (by omega) hk
 omega
theorem lower_any (c:Int) (w:World):Calls Tryz.prog 298 #[.int .u8 c] w fun e w'=>e=.returned (.int .u8 (bits .or .u8 c 32))∧w=w':=by
 go_enter Tryz.func298,Tryz.ntmps298
 go_wp2
 go_ret
 exact ⟨rfl,rfl⟩
theorem lower_hex (c:UInt8) (h:hexV c<16) (hn:¬ (48≤c.toNat∧c.toNat≤57)):bits .or .u8 (c.toNat:Int) 32=(hexV c:Int)+87∧10≤hexV c:=by
 have:=forall_u8 (p:=fun c => !(decide (hexV c<16) && !(decide (48≤c.toNat)&&decide (c.toNat≤57))) || (bits .or .u8 (c.toNat:Int) 32==(hexV c:Int)+87&&decide (10≤hexV c))) (by decide +kernel) c
 simp only [Bool.or_eq_true,Bool.not_eq_true',Bool.and_eq_true,Bool.and_eq_false_iff,decide_eq_true_eq,decide_eq_false_iff_not,beq_iff_eq,Bool.not_eq_false'] at this
 rcases this with (h'|h')|h'
 ·exact absurd h h'
 ·exact absurd h' hn
 ·exact h'
theorem hex_digit (c:UInt8) (h:48≤c.toNat∧c.toNat≤57):(hexV c:Int)=(c.toNat:Int) - 48:=by
 unfold hexV;rw [if_pos h];omega
theorem iparse16 (s:Bs) (w:World) (h4:s.length=4) (hh:∀ c∈s,hexV c<16) :
  Calls Tryz.prog 290 #[.string ⟨s.toArray⟩,.int .i64 16,.int .i64 16] w fun e w'=>e=.returned (.tuple #[.int .u64 (hexN s),.nilIface])∧Fr NoB w w':=by
 have hne:(s==[])=false:=by cases s with|nil=>simp at h4|cons c r=>rfl
 have hne2:s.isEmpty=false:=by cases s with|nil=>simp at h4|cons c r=>rfl
 have hcv:=Lib.run_convert_string_bytes (P:=Tryz.prog) w 9 81 5 ⟨s.toArray⟩ (u:=.string) Tryz.underlying9 Tryz.underlying81 Tryz.underlying5
 have hB:∀ j,j<4→(Lib.bytesWorld w 5 ⟨s.toArray⟩).cell? ⟨w.heap.size,j,none⟩=some (.int .u8 (s.getD j 0).toNat):=fun j hj=>Lib.bytesWorld_cell w 5 ⟨s.toArray⟩ j (by show j<s.toArray.size;simp;omega)
 have hfr:Fr NoB w (Lib.bytesWorld w 5 ⟨s.toArray⟩):=Fr.of_below (Lib.below_freeze (((Below.refl _ w).drew).alloc (Nat.le_refl _) _) (Nat.le_refl _) _)
 obtain ⟨W1,hW1⟩:∃ W1,W1=Lib.bytesWorld w 5 ⟨s.toArray⟩:=⟨_,rfl⟩
 rw [← hW1] at hcv hB hfr
 clear hW1
 have hmv:IntKind.u64.wrap (IntKind.u64.wrap 65536 - 1)=65535:=by
  rw [IntKind.wrap_u64,IntKind.wrap_u64]
  decide
 have H4:=Lib.hid h4
 have hs4:s.length≤4:=by omega
 clear h4
 go_enter Tryz.func290,Tryz.ntmps290
 go_wp2
 go_loop [12,13,101] (fun vu vn vi=>∃ (k:Nat) (a:Int),vu=.bool false∧vn=.int .u64 a∧vi=.int .i64 k∧k≤s.length∧0≤a∧Hid (a=(hexN (s.take k):Int))) (fun _ _ vi=>s.length - (intOf vi).toNat)
 case atStart=>exact ⟨0,0,rfl,rfl,rfl,by omega,by omega,rfl⟩
 case round=>
  obtain ⟨k,a,rfl,rfl,rfl,hk,ha,Ha⟩:=hrel
  by_cases hlt:k<s.length
  ·have hc:=hB k (by rw [H4.out] at hlt;exact hlt)
   have hget:s.getD k 0=s[k]:=by simp [List.getD,List.getElem?_eq_getElem hlt]
   rw [hget] at hc
   have hx16:=hh s[k] (List.getElem_mem hlt)
   have hsn:s.take (k+1)=s.take k++[s[k]]:=List.take_succ_eq_append_getElem hlt
   have hN:=hexN_take s (k+1) H4.out (by have:=H4.out;omega) hh
   rw [hsn,hexN_snoc] at hN
   have HN:Hid (a*16+(hexV s[k]:Int)=(hexN (s.take (k+1)):Int)):=Lib.hid (by rw [hsn,hexN_snoc,Ha.out];omega)
   have hb:a*16+(hexV s[k]:Int)<65536:=by rw [Ha.out];omega
   clear hget hsn hN hB
   generalize s[k]=c at hc hx16 HN hb
   have hc256:c.toNat<256:=c.toNat_lt
   by_cases hd:48≤c.toNat∧c.toNat≤57
   ·have e:=hex_digit c hd
    rw [e] at HN hb
    obtain ⟨hd0,hd1⟩:=hd
    clear e hx16
    go_wp2
    exact ⟨⟨k+1,_,rfl,rfl,by go_num,by omega,by omega,HN⟩,by simp [intOf];omega⟩
   ·obtain ⟨hl,h10⟩:=lower_hex c hx16 hd
    have hv:(hexV c:Int)<16:=by omega
    have hv1:10≤(hexV c:Int):=by omega
    have hnot:¬ (c.toNat:Int)=95:=by
     intro e
     have:c=95:=by apply UInt8.toNat_inj.1;show c.toNat=95;omega
     subst this;revert hx16;decide
    have hub:((c.toNat:Int)==95)=false:=beq_eq_false_iff_ne.2 hnot
    generalize hexV c=v at hl hv hv1 HN hb hx16 h10
    clear hx16 h10
    by_cases hd2:48≤c.toNat
    ·have hd3:¬ c.toNat≤57:=fun e=>hd ⟨hd2,e⟩
     clear hd
     go_wp2_with (go_at_call 298;((with_reducible refine (lower_any _ _).mono ?_);rintro e w' ⟨rfl,rfl⟩))
     exact ⟨⟨k+1,_,rfl,rfl,by go_num,by omega,by omega,Lib.hid (by rw [← HN.out];omega)⟩,by simp [intOf];omega⟩
    ·clear hd
     go_wp2_with (go_at_call 298;((with_reducible refine (lower_any _ _).mono ?_);rintro e w' ⟨rfl,rfl⟩))
     exact ⟨⟨k+1,_,rfl,rfl,by go_num,by omega,by omega,Lib.hid (by rw [← HN.out];omega)⟩,by simp [intOf];omega⟩
  ·obtain rfl:k=s.length:=by omega
   have hend:a=(hexN s:Int):=by have:=Ha.out;rwa [List.take_length] at this
   have Hend:=Lib.hid hend
   clear hend hB
   go_wp2
   go_ret2
   exact ⟨by rw [Hend.out];rfl,hfr⟩
theorem parse16 (s:Bs) (w:World) (h4:s.length=4) (hh:∀ c∈s,hexV c<16) :
  Calls Tryz.prog 263 #[.string ⟨s.toArray⟩,.int .i64 16,.int .i64 16] w fun e w'=>e=.returned (.tuple #[.int .u64 (hexN s),.nilIface])∧Fr NoB w w':=by
 have H4:=Lib.hid h4
 clear h4
 go_enter Tryz.func263,Tryz.ntmps263
 go_wp2_with (go_at_call 290;((with_reducible refine (iparse16 s _ H4.out hh).mono ?_);rintro e w1 ⟨rfl,f1⟩))
 go_ret2
 exact ⟨rfl,f1⟩
theorem unitP_eq (s:Bs):unitP s=if Lib.hasPrefix s [92,117]=true∧4≤(s.drop 2).length∧(∀ c∈(s.drop 2).take 4,hexV c<16) then some (hexN ((s.drop 2).take 4),(s.drop 2).drop 4) else none:=by
 unfold unitP
 split
 ·rename_i x y a b c d r
  by_cases h:x=92∧y=117∧hexV a<16∧hexV b<16∧hexV c<16∧hexV d<16
  ·rw [if_pos h,if_pos ⟨by obtain ⟨rfl,rfl,_⟩:=h;rfl,by simp,by simpa using h.2.2⟩]
   simp only [List.drop_succ_cons,List.drop_zero,List.take_succ_cons,List.take_zero,hexN,List.foldl_cons,List.foldl_nil]
   congr 2;omega
  ·rw [if_neg h,if_neg]
   rintro ⟨h1,-,h3⟩
   apply h
   simp [Lib.hasPrefix,List.isPrefixOf] at h1 h3
   exact ⟨h1.1.symm,h1.2.symm,h3⟩
 ·rename_i hno
  rw [if_neg]
  rintro ⟨-,h2,-⟩
  match s,hno,h2 with
  | [],_,h2=>simp at h2
  | [_],_,h2=>simp at h2
  | [_,_],_,h2=>simp at h2
  | [_,_,_],_,h2=>simp at h2
  | [_,_,_,_],_,h2=>simp at h2
  | [_,_,_,_,_],_,h2=>simp at h2
  | x::y::a::b::c::d::r,hno,_=>exact hno x y a b c d r rfl
theorem hex_mem (c:UInt8):[48,49,50,51,52,53,54,55,56,57,97,98,99,100,101,102,65,66,67,68,69,70].contains c=decide (hexV c<16):=by
 simpa using forall_u8 (p:=fun c=>[48,49,50,51,52,53,54,55,56,57,97,98,99,100,101,102,65,66,67,68,69,70].contains c==decide (hexV c<16)) (by decide +kernel) c
theorem dropW_nil {p:UInt8→Bool} {l:Bs}:l.dropWhile p=[] ↔ ∀ c∈l,p c=true:=by
 induction l with
 | nil=>simp
 | cons c r ih=>
  rw [List.dropWhile_cons]
  split
  ·rename_i h;rw [ih];simp [h]
  ·rename_i h;simp [h]
theorem trim_hex (l:Bs):(Lib.trimS l [48,49,50,51,52,53,54,55,56,57,97,98,99,100,101,102,65,66,67,68,69,70]=[]) ↔ ∀ c∈l,hexV c<16:=by
 unfold Lib.trimS Lib.trimLeftS Lib.trimRightS
 rw [show (fun c:UInt8=>[48,49,50,51,52,53,54,55,56,57,97,98,99,100,101,102,65,66,67,68,69,70].contains c)=(fun c=>decide (hexV c<16)) from funext hex_mem]
 rw [dropW_nil]
 constructor
 ·intro h c hc
  by_cases hn:∀ c∈l,hexV c<16
  ·exact hn c hc
  ·exfalso
   have h2:l.reverse.dropWhile (fun c=>decide (hexV c<16))≠[]:=by
    intro e
    rw [dropW_nil] at e
    exact hn fun c hc=>by simpa using e c (by simpa using hc)
   obtain ⟨x,r,hx⟩:=List.exists_cons_of_ne_nil h2
   have h3:decide (hexV x<16)=false:=by
    have:=List.head?_dropWhile_not (fun c:UInt8=>decide (hexV c<16)) l.reverse
    rw [hx] at this
    simpa using this
   have:=h x (by rw [hx];simp)
   rw [h3] at this;cases this
 ·intro h c hc
  simp only [List.mem_reverse] at hc
  have:=(List.dropWhile_sublist _).subset hc
  simpa using h c (by simpa using this)
theorem unit_yes (b:Nat) (s t:Bs) (n:Nat) (w:World) (h:Rd w b s) (_hs:s.length≤65536) (hu:unitP s=some (n,t)) :
  Calls Tryz.prog 244 #[.pointer (some ⟨b,0,none⟩)] w fun e w'=>e=.returned (.int .i64 n)∧Goes w b t w':=by
 rw [unitP_eq] at hu
 split at hu
 ·rename_i hc
  obtain ⟨hp,hl,hx⟩:=hc
  cases hu
  have htr:=Lib.hid ((trim_hex _).2 hx)
  have hc:=h.cell
  have hN:hexN ((s.drop 2).take 4)<65536:=by
   have:=hexN_take ((s.drop 2).take 4) 4 (by simp at hl ⊢;omega) (by omega) hx
   rwa [List.take_take] at this
  simp only [List.length_drop] at hl
  have hl2:((s.drop 2).take 4).length=4:=by simp;omega
  have HX:=Lib.hid hx
  have Hl2:=Lib.hid hl2
  clear hx hl2
  have hxt:=ext_take (s.drop 2) 4
  have hxd:((⟨(s.drop 2).toArray⟩:ByteArray).extract 4 (s.length - 2))=⟨((s.drop 2).drop 4).toArray⟩:=by have:=ext_drop (s.drop 2) 4;simpa using this
  go_enter Tryz.func244,Tryz.ntmps244
  go_wp2_with (first|(go_at_call 211;((with_reducible refine (cutPrefix_yes s [92,117] _ hp).mono ?_);rintro e w1 ⟨rfl,rfl⟩))|(go_at_call 262;((with_reducible refine (trim_any _ [48,49,50,51,52,53,54,55,56,57,97,98,99,100,101,102,65,66,67,68,69,70] _ (by simp;omega) (by decide) (by decide)).mono ?_);rintro e w1 ⟨rfl,f1⟩;rw [htr.out]))|(go_at_call 130;((with_reducible refine (must_yes _ _).mono ?_);rintro e w2 ⟨rfl,rfl⟩))|(go_at_call 263;((with_reducible refine (parse16 _ _ Hl2.out HX.out).mono ?_);rintro e w2 ⟨rfl,f2⟩;have r2:=(h.fr f1 (fun e=>e)).fr f2 (fun e=>e);have c2:=r2.cell;have z2:=r2.frozen)))
  go_ret
  exact ⟨rfl,((f1.trans f2).noB).only _,by have:=r2.set ((s.drop 2).drop 4);simpa using this⟩
 ·cases hu
theorem unit_no (b:Nat) (s:Bs) (w:World) (h:Rd w b s) (_hs:s.length≤65536) (hu:unitP s=none) :
  Calls Tryz.prog 244 #[.pointer (some ⟨b,0,none⟩)] w fun e w'=>e=Wr 90∧Fr NoB w w':=by
 rw [unitP_eq] at hu
 have hc:=h.cell
 by_cases hp:Lib.hasPrefix s [92,117]=true
 ·by_cases hl:4≤(s.drop 2).length
  ·have hx:¬ ∀ c∈(s.drop 2).take 4,hexV c<16:=fun hx=>by rw [if_pos ⟨hp,hl,hx⟩] at hu;cases hu
   have htr:Lib.trimS ((s.drop 2).take 4) [48,49,50,51,52,53,54,55,56,57,97,98,99,100,101,102,65,66,67,68,69,70]≠[]:=fun e=>hx ((trim_hex _).1 e)
   clear hu hx
   simp only [List.length_drop] at hl
   have hxt:=ext_take (s.drop 2) 4
   generalize hT:Lib.trimS ((s.drop 2).take 4) [48,49,50,51,52,53,54,55,56,57,97,98,99,100,101,102,65,66,67,68,69,70]=T at htr
   have HT:=Lib.hid hT
   clear hT
   have hT2:T.isEmpty=false:=by cases T with|nil=>exact absurd rfl htr|cons c r=>rfl
   have hT3:(T==[])=false:=by cases T with|nil=>exact absurd rfl htr|cons c r=>rfl
   clear htr
   go_enter Tryz.func244,Tryz.ntmps244
   go_wp2_with (first|(go_at_call 211;((with_reducible refine (cutPrefix_yes s [92,117] _ hp).mono ?_);rintro e w1 ⟨rfl,rfl⟩))|(go_at_call 262;((with_reducible refine (trim_any _ [48,49,50,51,52,53,54,55,56,57,97,98,99,100,101,102,65,66,67,68,69,70] _ (by simp;omega) (by decide) (by decide)).mono ?_);rintro e w1 ⟨rfl,f1⟩;rw [HT.out]))|(go_at_call 130;((with_reducible refine (must_no _ _).mono ?_);rintro e w2 ⟨rfl,rfl⟩)))
   exact ⟨rfl,rfl,f1⟩
  ·clear hu
   simp only [List.length_drop] at hl
   go_enter Tryz.func244,Tryz.ntmps244
   go_wp2_with (first|(go_at_call 211;((with_reducible refine (cutPrefix_yes s [92,117] _ hp).mono ?_);rintro e w1 ⟨rfl,rfl⟩))|(go_at_call 130;((with_reducible refine (must_no _ _).mono ?_);rintro e w2 ⟨rfl,rfl⟩)))
   exact ⟨rfl,rfl,Fr.refl _ _⟩
 ·have hp':Lib.hasPrefix s [92,117]=false:=by simpa using hp
  clear hu hp
  go_enter Tryz.func244,Tryz.ntmps244
  go_wp2_with (first|(go_at_call 211;((with_reducible refine (cutPrefix_no s [92,117] _ hp').mono ?_);rintro e w1 ⟨rfl,rfl⟩))|(go_at_call 130;((with_reducible refine (must_no _ _).mono ?_);rintro e w2 ⟨rfl,rfl⟩)))
  exact ⟨rfl,rfl,Fr.refl _ _⟩
end Go.Proofs.YtbifjamddbpcjaaGreatDoor
