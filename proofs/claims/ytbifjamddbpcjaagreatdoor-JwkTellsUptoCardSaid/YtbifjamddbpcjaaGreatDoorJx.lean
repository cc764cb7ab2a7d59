/- JSON: the program's reader: value, words and numbers. -/
import Derived.Test.YtbifjamddbpcjaaGreatDoorTx
import Derived.Test.YtbifjamddbpcjaaGreatDoorYd
namespace Go.Proofs.YtbifjamddbpcjaaGreatDoor
set_option maxRecDepth 100000
set_option maxHeartbeats 25600000
open Go.RowKit
theorem pZ {p s:Bs} (h:Lib.hasPrefix s p=true):bK p s=some (blanks (s.drop p.length)):=by
 unfold bK;rw [if_pos (List.isPrefixOf_iff_prefix.1 h)]
theorem dF {p s:Bs} (h:Lib.hasPrefix s p=false):bK p s=none:=by
 unfold bK;rw [if_neg (fun e=>by have:=List.isPrefixOf_iff_prefix.2 e;unfold Lib.hasPrefix at h;rw [this] at h;cases h)]
theorem Ip {s:Bs} {x:Int} (h:jc s=some x) : -9007199254740991<=x/\x<=9007199254740991:=by
 unfold jc at h;split at h
 ·split at h
  ·rename_i hc;cases h;have:=hc.2;unfold kG at this;omega
  ·cases h
 ·cases h
theorem Dv {B:Nat} (d:Nat) (b:Nat) (s:Bs) (n:Int) (w:World) (_hx:Cx B w) (_hB:B<=b) (h:Rd w b s) (_hl:s.length<=65536) (h1:s.head?≠some 34) (h2:s.head?≠some 91) (h3:s.head?≠some 123) (hP:Lib.hasPrefix s [110,117,108,108]=true) :
  Calls Tryz.prog 129 #[.pointer (some ⟨b,0,none⟩),.int .i64 n] w (eV (aD d s) b w):=by
 have hq:aD d s=eQ s:=by
  unfold aD;split
  ·rename_i e;exact absurd e h1
  ·rename_i e;exact absurd e h2
  ·rename_i e;exact absurd e h3
  ·rfl
 rw [hq];have f0:Fr NoB w (w.alloc (.cells zj 31)):=(Fr.refl _ _).alloc _;have r0:=h.fr f0 (fun e=>e);have wO:Fr NoB w ((w.alloc (.cells zj 31)).alloc (.cells #[.string ⟨#[110,117,108,108]⟩,.string ⟨#[102,97,108,115,101]⟩,.string ⟨#[116,114,117,101]⟩] 9)):=f0.alloc _;have pk:=h.fr wO (fun e=>e);have hc:=r0.cell;have hc':=pk.cell;have pn:∀ c:UInt8,s.head?≠some c->Lib.hasPrefix s [c]=false:=fun c hn=>by
  cases hp:Lib.hasPrefix s [c]
  ·rfl
  ·exact absurd (eu.1 hp) hn
 have P1:=hd' (pn 34 h1);have P2:=hd' (pn 91 h2);have P3:=hd' (pn 123 h3);clear pn h1 h2 h3 hq;have hw:eQ s=.ok (.mk 0 0 [] [] [],blanks (s.drop 4)):=by
  unfold eQ;rw [show im=[110,117,108,108] from rfl,pZ hP];rfl
 rw [hw];clear hw;go_enter Tryz.func129,Tryz.ntmps129;go_wp2_with (first|(go_at_call 174;((with_reducible refine (aI s [34] _).mono ?_);rintro e w1 ⟨rfl,rfl⟩;rw [P1.out]))|(go_at_call 176;((with_reducible refine (aZ b s [91] _ r0 P2.out).mono ?_);rintro e w1 ⟨rfl,rfl⟩))|(go_at_call 176;((with_reducible refine (aZ b s [123] _ r0 P3.out).mono ?_);rintro e w1 ⟨rfl,rfl⟩)));refine wp_loop_rounds 1 ?_;rw [rounds_succ];go_wp2_with (first|(go_at_call 176;((with_reducible refine (eU b s [110,117,108,108] _ pk hP).mono ?_);rintro e w1 ⟨rfl,f1,r1⟩;have g1:=f1.blk ((Blk.new w 31 zj).alloc _) (fun e=>by have e':w.heap.size=b:=e;have:=h.lt;omega)))|(refine wpList_store_row rfl 31 _ _ rfl w.heap.size #[.int .i64 0,.int .i64 0,.string ⟨#[]⟩,.slice none 0 0,.slice none 0 0] rfl rfl 31 zj g1 ah rfl (bU _ _ _ _ _ _ _ _ _) ?_));have gB:=g1.setRow #[.int .i64 0,.int .i64 0,.string ⟨#[]⟩,.slice none 0 0,.slice none 0 0];have fB:=(wO.cT.trans f1).setRow w.heap.size #[.int .i64 0,.int .i64 0,.string ⟨#[]⟩,.slice none 0 0,.slice none 0 0] (Or.inl (Nat.le_refl _));have rB:=r1.fr (Fr.eE w1 w.heap.size #[.int .i64 0,.int .i64 0,.string ⟨#[]⟩,.slice none 0 0,.slice none 0 0]) (fun e=>by have e':b=w.heap.size:=e;have:=h.lt;omega);exact bodyPost_ret (v:=jV 0 0 [] (.slice none 0 0) (.slice none 0 0)) (bG rfl _ _ w.heap.size _ _ _ _ _ rfl gB) rfl ⟨_,rfl,ke 0 0 [] (by unfold IntOk;omega) (by unfold IntOk;omega) (by simp),fB,rB⟩
theorem Bh {B:Nat} (d:Nat) (b:Nat) (s:Bs) (n:Int) (w:World) (_hx:Cx B w) (_hB:B<=b) (h:Rd w b s) (_hl:s.length<=65536) (h1:s.head?≠some 34) (h2:s.head?≠some 91) (h3:s.head?≠some 123) (q1:Lib.hasPrefix s [110,117,108,108]=false) (hP:Lib.hasPrefix s [102,97,108,115,101]=true) :
  Calls Tryz.prog 129 #[.pointer (some ⟨b,0,none⟩),.int .i64 n] w (eV (aD d s) b w):=by
 have hq:aD d s=eQ s:=by
  unfold aD;split
  ·rename_i e;exact absurd e h1
  ·rename_i e;exact absurd e h2
  ·rename_i e;exact absurd e h3
  ·rfl
 rw [hq];have f0:Fr NoB w (w.alloc (.cells zj 31)):=(Fr.refl _ _).alloc _;have r0:=h.fr f0 (fun e=>e);have wO:Fr NoB w ((w.alloc (.cells zj 31)).alloc (.cells #[.string ⟨#[110,117,108,108]⟩,.string ⟨#[102,97,108,115,101]⟩,.string ⟨#[116,114,117,101]⟩] 9)):=f0.alloc _;have pk:=h.fr wO (fun e=>e);have hc:=r0.cell;have hc':=pk.cell;have pn:∀ c:UInt8,s.head?≠some c->Lib.hasPrefix s [c]=false:=fun c hn=>by
  cases hp:Lib.hasPrefix s [c]
  ·rfl
  ·exact absurd (eu.1 hp) hn
 have P1:=hd' (pn 34 h1);have P2:=hd' (pn 91 h2);have P3:=hd' (pn 123 h3);clear pn h1 h2 h3 hq;have hw:eQ s=.ok (.mk 1 0 [] [] [],blanks (s.drop 5)):=by
  unfold eQ;rw [show im=[110,117,108,108] from rfl,dF q1,show eO=[102,97,108,115,101] from rfl,pZ hP];rfl
 rw [hw];clear hw;have Q1:=hd' q1;clear q1;go_enter Tryz.func129,Tryz.ntmps129;go_wp2_with (first|(go_at_call 174;((with_reducible refine (aI s [34] _).mono ?_);rintro e w1 ⟨rfl,rfl⟩;rw [P1.out]))|(go_at_call 176;((with_reducible refine (aZ b s [91] _ r0 P2.out).mono ?_);rintro e w1 ⟨rfl,rfl⟩))|(go_at_call 176;((with_reducible refine (aZ b s [123] _ r0 P3.out).mono ?_);rintro e w1 ⟨rfl,rfl⟩)));refine wp_loop_rounds 2 ?_;rw [rounds_succ];go_wp2_with (go_at_call 176;((with_reducible refine (aZ b s [110,117,108,108] _ pk Q1.out).mono ?_);rintro e w1 ⟨rfl,rfl⟩));rw [rounds_succ];go_wp2_with (first|(go_at_call 176;((with_reducible refine (eU b s [102,97,108,115,101] _ pk hP).mono ?_);rintro e w1 ⟨rfl,f1,r1⟩;have g1:=f1.blk ((Blk.new w 31 zj).alloc _) (fun e=>by have e':w.heap.size=b:=e;have:=h.lt;omega)))|(refine wpList_store_row rfl 31 _ _ rfl w.heap.size #[.int .i64 1,.int .i64 0,.string ⟨#[]⟩,.slice none 0 0,.slice none 0 0] rfl rfl 31 zj g1 ah rfl (bU _ _ _ _ _ _ _ _ _) ?_));have gB:=g1.setRow #[.int .i64 1,.int .i64 0,.string ⟨#[]⟩,.slice none 0 0,.slice none 0 0];have fB:=(wO.cT.trans f1).setRow w.heap.size #[.int .i64 1,.int .i64 0,.string ⟨#[]⟩,.slice none 0 0,.slice none 0 0] (Or.inl (Nat.le_refl _));have rB:=r1.fr (Fr.eE w1 w.heap.size #[.int .i64 1,.int .i64 0,.string ⟨#[]⟩,.slice none 0 0,.slice none 0 0]) (fun e=>by have e':b=w.heap.size:=e;have:=h.lt;omega);exact bodyPost_ret (v:=jV 1 0 [] (.slice none 0 0) (.slice none 0 0)) (bG rfl _ _ w.heap.size _ _ _ _ _ rfl gB) rfl ⟨_,rfl,ke 1 0 [] (by unfold IntOk;omega) (by unfold IntOk;omega) (by simp),fB,rB⟩
theorem Dw {B:Nat} (d:Nat) (b:Nat) (s:Bs) (n:Int) (w:World) (_hx:Cx B w) (_hB:B<=b) (h:Rd w b s) (_hl:s.length<=65536) (h1:s.head?≠some 34) (h2:s.head?≠some 91) (h3:s.head?≠some 123) (q1:Lib.hasPrefix s [110,117,108,108]=false) (q2:Lib.hasPrefix s [102,97,108,115,101]=false) (hP:Lib.hasPrefix s [116,114,117,101]=true) :
  Calls Tryz.prog 129 #[.pointer (some ⟨b,0,none⟩),.int .i64 n] w (eV (aD d s) b w):=by
 have hq:aD d s=eQ s:=by
  unfold aD;split
  ·rename_i e;exact absurd e h1
  ·rename_i e;exact absurd e h2
  ·rename_i e;exact absurd e h3
  ·rfl
 rw [hq];have f0:Fr NoB w (w.alloc (.cells zj 31)):=(Fr.refl _ _).alloc _;have r0:=h.fr f0 (fun e=>e);have wO:Fr NoB w ((w.alloc (.cells zj 31)).alloc (.cells #[.string ⟨#[110,117,108,108]⟩,.string ⟨#[102,97,108,115,101]⟩,.string ⟨#[116,114,117,101]⟩] 9)):=f0.alloc _;have pk:=h.fr wO (fun e=>e);have hc:=r0.cell;have hc':=pk.cell;have pn:∀ c:UInt8,s.head?≠some c->Lib.hasPrefix s [c]=false:=fun c hn=>by
  cases hp:Lib.hasPrefix s [c]
  ·rfl
  ·exact absurd (eu.1 hp) hn
 have P1:=hd' (pn 34 h1);have P2:=hd' (pn 91 h2);have P3:=hd' (pn 123 h3);clear pn h1 h2 h3 hq;have hw:eQ s=.ok (.mk 2 0 [] [] [],blanks (s.drop 4)):=by
  unfold eQ;rw [show im=[110,117,108,108] from rfl,dF q1,show eO=[102,97,108,115,101] from rfl,dF q2,show jd=[116,114,117,101] from rfl,pZ hP];rfl
 rw [hw];clear hw;have Q1:=hd' q1;have Q2:=hd' q2;clear q1 q2;go_enter Tryz.func129,Tryz.ntmps129;go_wp2_with (first|(go_at_call 174;((with_reducible refine (aI s [34] _).mono ?_);rintro e w1 ⟨rfl,rfl⟩;rw [P1.out]))|(go_at_call 176;((with_reducible refine (aZ b s [91] _ r0 P2.out).mono ?_);rintro e w1 ⟨rfl,rfl⟩))|(go_at_call 176;((with_reducible refine (aZ b s [123] _ r0 P3.out).mono ?_);rintro e w1 ⟨rfl,rfl⟩)));refine wp_loop_rounds 3 ?_;rw [rounds_succ];go_wp2_with (go_at_call 176;((with_reducible refine (aZ b s [110,117,108,108] _ pk Q1.out).mono ?_);rintro e w1 ⟨rfl,rfl⟩));rw [rounds_succ];go_wp2_with (go_at_call 176;((with_reducible refine (aZ b s [102,97,108,115,101] _ pk Q2.out).mono ?_);rintro e w1 ⟨rfl,rfl⟩));rw [rounds_succ];go_wp2_with (first|(go_at_call 176;((with_reducible refine (eU b s [116,114,117,101] _ pk hP).mono ?_);rintro e w1 ⟨rfl,f1,r1⟩;have g1:=f1.blk ((Blk.new w 31 zj).alloc _) (fun e=>by have e':w.heap.size=b:=e;have:=h.lt;omega)))|(refine wpList_store_row rfl 31 _ _ rfl w.heap.size #[.int .i64 2,.int .i64 0,.string ⟨#[]⟩,.slice none 0 0,.slice none 0 0] rfl rfl 31 zj g1 ah rfl (bU _ _ _ _ _ _ _ _ _) ?_));have gB:=g1.setRow #[.int .i64 2,.int .i64 0,.string ⟨#[]⟩,.slice none 0 0,.slice none 0 0];have fB:=(wO.cT.trans f1).setRow w.heap.size #[.int .i64 2,.int .i64 0,.string ⟨#[]⟩,.slice none 0 0,.slice none 0 0] (Or.inl (Nat.le_refl _));have rB:=r1.fr (Fr.eE w1 w.heap.size #[.int .i64 2,.int .i64 0,.string ⟨#[]⟩,.slice none 0 0,.slice none 0 0]) (fun e=>by have e':b=w.heap.size:=e;have:=h.lt;omega);exact bodyPost_ret (v:=jV 2 0 [] (.slice none 0 0) (.slice none 0 0)) (bG rfl _ _ w.heap.size _ _ _ _ _ rfl gB) rfl ⟨_,rfl,ke 2 0 [] (by unfold IntOk;omega) (by unfold IntOk;omega) (by simp),fB,rB⟩
theorem Dx {B:Nat} (d:Nat) (b:Nat) (s:Bs) (n:Int) (w:World) (hx:Cx B w) (_hB:B<=b) (h:Rd w b s) (hl:s.length<=65536) (h1:s.head?≠some 34) (h2:s.head?≠some 91) (h3:s.head?≠some 123) (q1:Lib.hasPrefix s [110,117,108,108]=false) (q2:Lib.hasPrefix s [102,97,108,115,101]=false) (q3:Lib.hasPrefix s [116,114,117,101]=false) (hn:jb s=0) :
  Calls Tryz.prog 129 #[.pointer (some ⟨b,0,none⟩),.int .i64 n] w (eV (aD d s) b w):=by
 have hq:aD d s=eQ s:=by
  unfold aD;split
  ·rename_i e;exact absurd e h1
  ·rename_i e;exact absurd e h2
  ·rename_i e;exact absurd e h3
  ·rfl
 rw [hq];have f0:Fr NoB w (w.alloc (.cells zj 31)):=(Fr.refl _ _).alloc _;have r0:=h.fr f0 (fun e=>e);have wO:Fr NoB w ((w.alloc (.cells zj 31)).alloc (.cells #[.string ⟨#[110,117,108,108]⟩,.string ⟨#[102,97,108,115,101]⟩,.string ⟨#[116,114,117,101]⟩] 9)):=f0.alloc _;have pk:=h.fr wO (fun e=>e);have hc:=r0.cell;have hc':=pk.cell;have pn:∀ c:UInt8,s.head?≠some c->Lib.hasPrefix s [c]=false:=fun c hn=>by
  cases hp:Lib.hasPrefix s [c]
  ·rfl
  ·exact absurd (eu.1 hp) hn
 have P1:=hd' (pn 34 h1);have P2:=hd' (pn 91 h2);have P3:=hd' (pn 123 h3);clear pn h1 h2 h3 hq;have hw:eQ s=.error 90:=by
  unfold eQ;rw [show im=[110,117,108,108] from rfl,dF q1,show eO=[102,97,108,115,101] from rfl,dF q2,show jd=[116,114,117,101] from rfl,dF q3];simp only [hn,if_true]
 rw [hw];clear hw;have Q1:=hd' q1;have Q2:=hd' q2;have Q3:=hd' q3;clear q1 q2 q3;have X0:=hx.eG wO;have hle:=rp s;have Hn:=hd' hn;clear hn hle;go_enter Tryz.func129,Tryz.ntmps129;go_wp2_with (first|(go_at_call 174;((with_reducible refine (aI s [34] _).mono ?_);rintro e w1 ⟨rfl,rfl⟩;rw [P1.out]))|(go_at_call 176;((with_reducible refine (aZ b s [91] _ r0 P2.out).mono ?_);rintro e w1 ⟨rfl,rfl⟩))|(go_at_call 176;((with_reducible refine (aZ b s [123] _ r0 P3.out).mono ?_);rintro e w1 ⟨rfl,rfl⟩)));refine wp_loop_rounds 4 ?_;rw [rounds_succ];go_wp2_with (go_at_call 176;((with_reducible refine (aZ b s [110,117,108,108] _ pk Q1.out).mono ?_);rintro e w1 ⟨rfl,rfl⟩));rw [rounds_succ];go_wp2_with (go_at_call 176;((with_reducible refine (aZ b s [102,97,108,115,101] _ pk Q2.out).mono ?_);rintro e w1 ⟨rfl,rfl⟩));rw [rounds_succ];go_wp2_with (go_at_call 176;((with_reducible refine (aZ b s [116,114,117,101] _ pk Q3.out).mono ?_);rintro e w1 ⟨rfl,rfl⟩));rw [rounds_succ];go_wp2_with (first|(go_at_call 178;((with_reducible refine (lY s _ (by omega)).mono ?_);rintro e w2 ⟨rfl,f2⟩;rw [Hn.out]))|(go_at_call 130;((with_reducible refine (aE _ _ _ (by rfl)).mono ?_);rintro e w3 ⟨rfl,rfl⟩)));exact ⟨rfl,rfl,(wO.trans f2).cT⟩
theorem Iq {B:Nat} (d:Nat) (b:Nat) (s:Bs) (n:Int) (w:World) (hx:Cx B w) (_hB:B<=b) (h:Rd w b s) (hl:s.length<=65536) (h1:s.head?≠some 34) (h2:s.head?≠some 91) (h3:s.head?≠some 123) (q1:Lib.hasPrefix s [110,117,108,108]=false) (q2:Lib.hasPrefix s [102,97,108,115,101]=false) (q3:Lib.hasPrefix s [116,114,117,101]=false) (hn:jb s≠0) (he:jc (s.take (jb s))=none) :
  Calls Tryz.prog 129 #[.pointer (some ⟨b,0,none⟩),.int .i64 n] w (eV (aD d s) b w):=by
 have hq:aD d s=eQ s:=by
  unfold aD;split
  ·rename_i e;exact absurd e h1
  ·rename_i e;exact absurd e h2
  ·rename_i e;exact absurd e h3
  ·rfl
 rw [hq];have f0:Fr NoB w (w.alloc (.cells zj 31)):=(Fr.refl _ _).alloc _;have r0:=h.fr f0 (fun e=>e);have wO:Fr NoB w ((w.alloc (.cells zj 31)).alloc (.cells #[.string ⟨#[110,117,108,108]⟩,.string ⟨#[102,97,108,115,101]⟩,.string ⟨#[116,114,117,101]⟩] 9)):=f0.alloc _;have pk:=h.fr wO (fun e=>e);have hc:=r0.cell;have hc':=pk.cell;have pn:∀ c:UInt8,s.head?≠some c->Lib.hasPrefix s [c]=false:=fun c hn=>by
  cases hp:Lib.hasPrefix s [c]
  ·rfl
  ·exact absurd (eu.1 hp) hn
 have P1:=hd' (pn 34 h1);have P2:=hd' (pn 91 h2);have P3:=hd' (pn 123 h3);clear pn h1 h2 h3 hq;have hw:eQ s=.error 95:=by
  unfold eQ;rw [show im=[110,117,108,108] from rfl,dF q1,show eO=[102,97,108,115,101] from rfl,dF q2,show jd=[116,114,117,101] from rfl,dF q3];simp only [hn,if_false,he]
 rw [hw];clear hw;have Q1:=hd' q1;have Q2:=hd' q2;have Q3:=hd' q3;clear q1 q2 q3;have X0:=hx.eG wO;have hle:=rp s;have Hn:=hd' hn;have HE:=hd' he;clear hn he;generalize hm:jb s=m at hle Hn HE;have Hm:=hd' hm;clear hm;have rI:0<m:=Nat.pos_of_ne_zero Hn.out;have uY:=lT s;go_enter Tryz.func129,Tryz.ntmps129;go_wp2_with (first|(go_at_call 174;((with_reducible refine (aI s [34] _).mono ?_);rintro e w1 ⟨rfl,rfl⟩;rw [P1.out]))|(go_at_call 176;((with_reducible refine (aZ b s [91] _ r0 P2.out).mono ?_);rintro e w1 ⟨rfl,rfl⟩))|(go_at_call 176;((with_reducible refine (aZ b s [123] _ r0 P3.out).mono ?_);rintro e w1 ⟨rfl,rfl⟩)));refine wp_loop_rounds 4 ?_;rw [rounds_succ];go_wp2_with (go_at_call 176;((with_reducible refine (aZ b s [110,117,108,108] _ pk Q1.out).mono ?_);rintro e w1 ⟨rfl,rfl⟩));rw [rounds_succ];go_wp2_with (go_at_call 176;((with_reducible refine (aZ b s [102,97,108,115,101] _ pk Q2.out).mono ?_);rintro e w1 ⟨rfl,rfl⟩));rw [rounds_succ];go_wp2_with (go_at_call 176;((with_reducible refine (aZ b s [116,114,117,101] _ pk Q3.out).mono ?_);rintro e w1 ⟨rfl,rfl⟩));rw [rounds_succ];go_wp2_with (first|(go_at_call 178;((with_reducible refine (lY s _ (by omega)).mono ?_);rintro e w2 ⟨rfl,f2⟩;rw [Hm.out];have R2:=pk.fr f2 (fun e=>e);have c2:=R2.cell;have X2:=X0.eG f2))|(go_at_call 130;first|((with_reducible refine (aA _ _ _ (by first|rfl|(simp;done)|(simp;omega))).mono ?_);rintro e w3 ⟨rfl,rfl⟩)|((with_reducible refine (gj _ _).mono ?_);rintro e w3 ⟨rfl,rfl⟩))|(go_at_call 179;((with_reducible refine (LB (s.take m) _ X2 (by simp;omega) HE.out).mono ?_);rintro e w3 ⟨xx,rfl,f3⟩)));exact ⟨rfl,rfl,((wO.trans f2).trans f3).cT⟩
theorem Ir {B:Nat} (d:Nat) (b:Nat) (s:Bs) (n:Int) (w:World) (hx:Cx B w) (_hB:B<=b) (h:Rd w b s) (hl:s.length<=65536) (h1:s.head?≠some 34) (h2:s.head?≠some 91) (h3:s.head?≠some 123) (x:Int) (q1:Lib.hasPrefix s [110,117,108,108]=false) (q2:Lib.hasPrefix s [102,97,108,115,101]=false) (q3:Lib.hasPrefix s [116,114,117,101]=false) (hn:jb s≠0) (he:jc (s.take (jb s))=some x) :
  Calls Tryz.prog 129 #[.pointer (some ⟨b,0,none⟩),.int .i64 n] w (eV (aD d s) b w):=by
 have hq:aD d s=eQ s:=by
  unfold aD;split
  ·rename_i e;exact absurd e h1
  ·rename_i e;exact absurd e h2
  ·rename_i e;exact absurd e h3
  ·rfl
 rw [hq];have f0:Fr NoB w (w.alloc (.cells zj 31)):=(Fr.refl _ _).alloc _;have r0:=h.fr f0 (fun e=>e);have wO:Fr NoB w ((w.alloc (.cells zj 31)).alloc (.cells #[.string ⟨#[110,117,108,108]⟩,.string ⟨#[102,97,108,115,101]⟩,.string ⟨#[116,114,117,101]⟩] 9)):=f0.alloc _;have pk:=h.fr wO (fun e=>e);have hc:=r0.cell;have hc':=pk.cell;have pn:∀ c:UInt8,s.head?≠some c->Lib.hasPrefix s [c]=false:=fun c hn=>by
  cases hp:Lib.hasPrefix s [c]
  ·rfl
  ·exact absurd (eu.1 hp) hn
 have P1:=hd' (pn 34 h1);have P2:=hd' (pn 91 h2);have P3:=hd' (pn 123 h3);clear pn h1 h2 h3 hq;have hw:eQ s=.ok (.mk 3 x [] [] [],blanks (s.drop (jb s))):=by
  unfold eQ;rw [show im=[110,117,108,108] from rfl,dF q1,show eO=[102,97,108,115,101] from rfl,dF q2,show jd=[116,114,117,101] from rfl,dF q3];simp only [hn,if_false,he]
 rw [hw];clear hw;have hxo:=Ip he;have Q1:=hd' q1;have Q2:=hd' q2;have Q3:=hd' q3;clear q1 q2 q3;have X0:=hx.eG wO;have hle:=rp s;have Hn:=hd' hn;have HE:=hd' he;clear hn he;generalize hm:jb s=m at hle Hn HE;have Hm:=hd' hm;clear hm;have rI:0<m:=Nat.pos_of_ne_zero Hn.out;have uY:=lT s;have Re:Lib.hasPrefix s (s.take m)=true:=List.isPrefixOf_iff_prefix.2 (List.take_prefix _ _);have hlen:(s.take m).length=m:=by simp;omega
 have Ri:=hd' Re;have ac2:=hd' hlen;clear Re hlen;go_enter Tryz.func129,Tryz.ntmps129;go_wp2_with (first|(go_at_call 174;((with_reducible refine (aI s [34] _).mono ?_);rintro e w1 ⟨rfl,rfl⟩;rw [P1.out]))|(go_at_call 176;((with_reducible refine (aZ b s [91] _ r0 P2.out).mono ?_);rintro e w1 ⟨rfl,rfl⟩))|(go_at_call 176;((with_reducible refine (aZ b s [123] _ r0 P3.out).mono ?_);rintro e w1 ⟨rfl,rfl⟩)));refine wp_loop_rounds 4 ?_;rw [rounds_succ];go_wp2_with (go_at_call 176;((with_reducible refine (aZ b s [110,117,108,108] _ pk Q1.out).mono ?_);rintro e w1 ⟨rfl,rfl⟩));rw [rounds_succ];go_wp2_with (go_at_call 176;((with_reducible refine (aZ b s [102,97,108,115,101] _ pk Q2.out).mono ?_);rintro e w1 ⟨rfl,rfl⟩));rw [rounds_succ];go_wp2_with (go_at_call 176;((with_reducible refine (aZ b s [116,114,117,101] _ pk Q3.out).mono ?_);rintro e w1 ⟨rfl,rfl⟩));rw [rounds_succ];go_wp2_with (first|(go_at_call 178;((with_reducible refine (lY s _ (by omega)).mono ?_);rintro e w2 ⟨rfl,f2⟩;rw [Hm.out];have R2:=pk.fr f2 (fun e=>e);have c2:=R2.cell;have X2:=X0.eG f2))|(go_at_call 130;((with_reducible refine (aA _ _ _ (by first|rfl|(simp;done)|(simp;omega))).mono ?_);rintro e w3 ⟨rfl,rfl⟩))|(go_at_call 179;((with_reducible refine (Hz (s.take m) x _ X2 (by simp;omega) HE.out).mono ?_);rintro e w3 ⟨rfl,f3⟩;have R3:=R2.fr f3 (fun e=>e);have c3:=R3.cell))|(go_at_call 176;((with_reducible refine (eU b s (s.take m) _ R3 Ri.out).mono ?_);rintro e w4 ⟨rfl,f4,r4⟩;have g1:=f4.blk ((((Fr.refl NoB _).trans f2).trans f3).blk ((Blk.new w 31 zj).alloc _) (fun e=>e)) (fun e=>by have e':w.heap.size=b:=e;have:=h.lt;omega)))|(refine wpList_store_row rfl 31 _ _ rfl w.heap.size #[.int .i64 3,.int .i64 x,.string ⟨#[]⟩,.slice none 0 0,.slice none 0 0] rfl rfl 31 zj g1 ah rfl (bU _ _ _ _ _ _ _ _ _) ?_));have gB:=g1.setRow #[.int .i64 3,.int .i64 x,.string ⟨#[]⟩,.slice none 0 0,.slice none 0 0];have fB:=(((wO.trans f2).trans f3).cT.trans f4).setRow w.heap.size #[.int .i64 3,.int .i64 x,.string ⟨#[]⟩,.slice none 0 0,.slice none 0 0] (Or.inl (Nat.le_refl _));rw [ac2.out] at r4;have rB:=r4.fr (Fr.eE w4 w.heap.size #[.int .i64 3,.int .i64 x,.string ⟨#[]⟩,.slice none 0 0,.slice none 0 0]) (fun e=>by have e':b=w.heap.size:=e;have:=h.lt;omega);exact bodyPost_ret (v:=jV 3 x [] (.slice none 0 0) (.slice none 0 0)) (bG rfl _ _ w.heap.size _ _ _ _ _ rfl gB) rfl ⟨_,rfl,ke 3 x [] (by unfold IntOk;omega) (by unfold IntOk;omega) (by simp),fB,rB⟩
theorem tR {B:Nat} (d:Nat) (b:Nat) (s:Bs) (n:Int) (w:World) (hx:Cx B w) (hB:B<=b) (h:Rd w b s) (hl:s.length<=65536) (h1:s.head?≠some 34) (h2:s.head?≠some 91) (h3:s.head?≠some 123) :
  Calls Tryz.prog 129 #[.pointer (some ⟨b,0,none⟩),.int .i64 n] w (eV (aD d s) b w):=by
 cases q1:Lib.hasPrefix s [110,117,108,108] with
 | true=>exact Dv d b s n w hx hB h hl h1 h2 h3 q1
 | false=>
  cases q2:Lib.hasPrefix s [102,97,108,115,101] with
  | true=>exact Bh d b s n w hx hB h hl h1 h2 h3 q1 q2
  | false=>
   cases q3:Lib.hasPrefix s [116,114,117,101] with
   | true=>exact Dw d b s n w hx hB h hl h1 h2 h3 q1 q2 q3
   | false=>
    by_cases hn:jb s=0
    ·exact Dx d b s n w hx hB h hl h1 h2 h3 q1 q2 q3 hn
    ·cases he:jc (s.take (jb s)) with
     | none=>exact Iq d b s n w hx hB h hl h1 h2 h3 q1 q2 q3 hn he
     | some x=>exact Ir d b s n w hx hB h hl h1 h2 h3 x q1 q2 q3 hn he
theorem kU {lo:Nat} (ks:List Bs) (kv:Value) (key:Bs) (w:World) (h:w.ownsRow lo 9 1 kv ks.length (ks.map sV)) (hl:ks.length<=big) :
  Calls Tryz.prog 213 #[kv,.string ⟨key.toArray⟩] w fun e w'=>e=.returned (.bool (ks.contains key))/\w=w':=by
 have TS:=@World.ownsRow.cells _ _ _ _ _ _ _ h;rcases h.2 with ⟨rfl,h0⟩|⟨g,cap,cur,rfl,hg,hh,_⟩
 ·have gH:ks=[]:=List.eq_nil_of_length_eq_zero h0;subst gH;refine (Tryz.slices_Contains_string_empty none 0 ⟨key.toArray⟩ w).mono ?_;rintro e w' ⟨rfl,rfl⟩;exact ⟨rfl,rfl⟩
 ·refine (Tryz.slices_Contains_string g 0 ks.length cap (ks.map (fun s:Bs=>(⟨s.toArray⟩:ByteArray))) ⟨key.toArray⟩ w (by simp) (by unfold big at hl;omega) ?_).mono ?_
  ·intro j hj;have MH:j<ks.length:=by simpa using hj
   have:=TS (g:=g) rfl j (sV ks[j]) (by simp [MH]);rw [bT] at this;simpa [List.getD,MH] using this
  ·rintro e w' ⟨rfl,rfl⟩;refine ⟨?_,rfl⟩;have e2:Lib.containsS ((ks.map (fun s:Bs=>(⟨s.toArray⟩:ByteArray))).take ks.length) ⟨key.toArray⟩=ks.contains key:=by
    rw [Bool.eq_iff_iff,Lib.containsS_iff];rw [List.take_of_length_le (by simp)];simp
   rw [e2]
attribute [local go_sem ↓] Go.wp_at_zero Go.wp_at_succ
def VC (d:Nat):Prop:=∀ {B:Nat} (b:Nat) (s:Bs) (n:Int) (w:World),Cx B w->B<=b->Rd w b s->s.length<=65536->n=32 - (d:Int) ->
 Calls Tryz.prog 129 #[.pointer (some ⟨b,0,none⟩),.int .i64 n] w (eV (aD d s) b w)
def rr (obj:Bool):Int:=if obj then 6 else 5
theorem QC (obj:Bool):IntOk (rr obj):=by unfold IntOk rr;cases obj<;>simp
def wQ (val:Bs->Pr) (obj:Bool) (close:UInt8) (f:Nat) (s2:Bs) (l:List Jv) (Mt:List Bs):Pr:=
 match val s2 with
 | .error e=>.error e
 | .ok (v,s3)=>
  match bK [close] s3 with
  | some s4=>.ok (.mk (if obj then 6 else 5) 0 [] (l++[v]) Mt,s4)
  | none=>
   match bK [44] s3 with
   | none=>.error 90
   | some s4=>gU val obj close f s4 (l++[v]) Mt
theorem Dy (val:Bs->Pr) (obj:Bool) (close:UInt8) (f:Nat) (s:Bs) (l:List Jv) (ks:List Bs) :
  gU val obj close (f+1) s l ks=match BL obj s ks with | .error e=>.error e | .ok (Mt,s2)=>wQ val obj close f s2 l Mt:=by
 rw [gU];cases BL obj s ks with
 | error e=>rfl
 | ok p=>rfl
structure NSt (w0:World) (b:Nat) (k:Int) (s:Bs) (l:List Jv) (ks:List Bs) (w:World) (lv kv:Value):Prop where
 rd:Rd w b s
 res:Blk w w0.heap.size 31 zj
 var:Blk w (w0.heap.size+1) 31 #[.int .i64 k,.int .i64 0,.string ⟨#[]⟩,lv,kv]
 rows:JRows (w0.heap.size+2) w l ks lv kv
 fr:Fr (Only b) w0 w
 sz:w0.heap.size+2<=w.heap.size
 len:s.length+l.length<=65536
 keys:ks.length<=l.length+1/\∀ s∈ks,s.length<=big
def XW (w0:World) (b:Nat) (obj:Bool) (q:Pr) (val:Bs->Pr) (close:UInt8) (gk:Nat) (wr:World):Prop:=
 ∃ (s:Bs) (l:List Jv) (ks:List Bs) (lv kv:Value),NSt w0 b (rr obj) s l ks wr lv kv/\ks.length<=l.length/\gU val obj close gk s l ks=q/\s.length<gk
def ac3 (w0:World) (b:Nat) (obj:Bool) (q:Pr) (val:Bs->Pr) (close:UInt8) (f m:Nat) (wr:World):Prop:=
 ∃ (s:Bs) (l:List Jv) (ks:List Bs) (lv kv:Value),NSt w0 b (rr obj) s l ks wr lv kv/\wQ val obj close f s l ks=q/\s.length<=m
theorem Iu {s p r:Bs} (h:bK p s=some r):Lib.hasPrefix s p=true/\r=blanks (s.drop p.length):=by
 unfold bK at h;split at h
 ·rename_i hp
  cases h;exact ⟨List.isPrefixOf_iff_prefix.2 hp,rfl⟩
 ·cases h
theorem Iw {s p:Bs} (h:bK p s=none):Lib.hasPrefix s p=false:=by
 unfold bK at h;split at h
 ·cases h
 ·rename_i hp
  cases hq:Lib.hasPrefix s p
  ·rfl
  ·exact absurd (List.isPrefixOf_iff_prefix.1 hq) hp
theorem ru {b:Nat} {s p r:Bs} {w:World} (h:Rd w b s) (hp:bK p s=some r) :
  Calls Tryz.prog 176 #[.pointer (some ⟨b,0,none⟩),.string ⟨p.toArray⟩] w fun e w'=>e=.returned (.bool true)/\rW w b r w':=by
 obtain ⟨h1,rfl⟩:=Iu hp;exact eU b s p w h h1
theorem l8 {b:Nat} {s p:Bs} {w:World} (h:Rd w b s) (hp:bK p s=none) :
  Calls Tryz.prog 176 #[.pointer (some ⟨b,0,none⟩),.string ⟨p.toArray⟩] w fun e w'=>e=.returned (.bool false)/\w=w':=aZ b s p w h (Iw hp)
theorem JRows.one {lo:Nat} {w:World} {l:List Jv} {ks:List Bs} {lv kv:Value} (h:JRows lo w l ks lv kv) (k i:Int) (t:ByteArray):(#[Value.int .i64 k,.int .i64 i,.string t,lv,kv].all (·.oneCell'))=true:=by
 obtain ⟨cs,S,h1,h2,_⟩:=h;rcases h1.2 with ⟨rfl,_⟩|⟨g1,c1,u1,rfl,_⟩<;>rcases h2.2 with ⟨rfl,_⟩|⟨g2,c2,u2,rfl,_⟩<;>simp [Value.oneCell']
theorem NSt.done {w0 w:World} {b:Nat} {k:Int} {s:Bs} {l:List Jv} {ks:List Bs} {lv kv:Value} (h:NSt w0 b k s l ks w lv kv) (hb:b<w0.heap.size) (hk:IntOk k) :
  eV (.ok (.mk k 0 [] l ks,s)) b w0 (.returned (jV k 0 [] lv kv)) (w.setRow w0.heap.size #[.int .i64 k,.int .i64 0,.string ⟨#[]⟩,lv,kv]):=by
 have fO:=Fr.eE w w0.heap.size #[.int .i64 k,.int .i64 0,.string ⟨#[]⟩,lv,kv];refine ⟨_,rfl,?_,?_,?_⟩
 ·have hr:=h.rows.fr fO (fun g hg e=>by have e':g=w0.heap.size:=e;omega);have hl:=h.len;exact hr.top k (by omega) hk (by unfold big;omega) ⟨by have:=h.keys.1;unfold big;omega,h.keys.2⟩
 ·exact h.fr.setRow w0.heap.size _ (Or.inl (Nat.le_refl _))
 ·exact h.rd.fr fO (fun e=>by have e':b=w0.heap.size:=e;omega)
theorem NSt.goes {w0 w w':World} {b:Nat} {k:Int} {s s':Bs} {l:List Jv} {ks:List Bs} {lv kv:Value} (h:NSt w0 b k s l ks w lv kv) (hb:b<w0.heap.size) (g:rW w b s' w') (hs:s'.length<=s.length):NSt w0 b k s' l ks w' lv kv:=
 ⟨g.2,g.1.blk h.res (fun e=>by have e':w0.heap.size=b:=e;omega),g.1.blk h.var (fun e=>by have e':w0.heap.size+1=b:=e;omega),h.rows.fr g.1 (fun x hx e=>by have e':x=b:=e;omega),h.fr.trans g.1,Nat.le_trans h.sz g.1.size,by have:=h.len;omega,h.keys⟩
theorem NSt.key {w0 w w1:World} {b:Nat} {k:Int} {s:Bs} {l:List Jv} {ks:List Bs} {lv kv:Value} (h:NSt w0 b k s l ks w lv kv) (hb:b<w0.heap.size) (jU:ks.length<=l.length) (key:Bs) (hkey:key.length<=big) (g cap:Nat) (o:Obj)
  (hown:w1.ownsRow (w0.heap.size+2) 9 1 (.slice (some ⟨g,0,none⟩) (ks.length+1) cap) (ks.length+1) (ks.map sV++[sV key])) (hgr:(w.alloc o).grownBy w1 kv.ownBlock) (hat:kv.ownBlock=some g\/g=w.heap.size+1) :
  NSt w0 b k s l (ks++[key]) (w1.setCell ⟨w0.heap.size+1,4,none⟩ (.slice (some ⟨g,0,none⟩) (ks.length+1) cap)) lv (.slice (some ⟨g,0,none⟩) (ks.length+1) cap):=by
 have hsz:=h.sz;have ha:Fr NoB w (w.alloc o):=(Fr.refl _ _).alloc _;have hka:=(h.rows.fr ha (fun _ _ e=>e));have hko:∀ x,kv.ownBlock=some x->w0.heap.size+2<=x:=fun x hx=>(hka.keys.lt x hx).1;have YM:w0.heap.size+2<=g:=by rcases hat with hat|hat;exact hko g hat;omega
 have dX:=hka.key key g cap hown hgr (by simpa using hat);have hF:Fr (fun x=>kv.ownBlock=some x) w w1:=(Fr.refl _ w |>.alloc o).grown hgr (fun j hj _=>hj);have hn:∀ x,x<w0.heap.size+2->¬ (kv.ownBlock=some x):=fun x hx e=>by have:=hko x e;omega
 have hS:Fr (Only (w0.heap.size+1)) w1 (w1.setCell ⟨w0.heap.size+1,4,none⟩ (.slice (some ⟨g,0,none⟩) (ks.length+1) cap)):=(Fr.refl _ w1).only _;have ab2:=h.rd.lt;refine ⟨(h.rd.fr hF (hn b (by omega))).fr hS (fun e=>by have e':b=w0.heap.size+1:=e;omega),hS.blk (hF.blk h.res (hn _ (by omega))) (fun e=>by have e':w0.heap.size=w0.heap.size+1:=e;omega),?_,dX.fr hS (fun x hx e=>by have e':x=w0.heap.size+1:=e;omega),?_,by have:=hF.size;simp [World.setCell];omega,h.len,by simp;omega,?_⟩
 ·have:=(hF.blk h.var (hn _ (by omega))).aS 4 (.slice (some ⟨g,0,none⟩) (ks.length+1) cap);simpa using this
 ·exact ((h.fr.alloc o).grown hgr (fun j hj hlt=>absurd hlt (by have:=hko j hj;omega))).setCell_new (p:=⟨w0.heap.size+1,4,none⟩) (by simp) _
 ·intro x hx;rcases List.mem_append.1 hx with hx|hx
  ·exact h.keys.2 x hx
  ·rw [List.mem_singleton.1 hx];exact hkey
theorem NSt.cells {w0 w:World} {b:Nat} {k:Int} {s:Bs} {l:List Jv} {ks:List Bs} {lv kv:Value} (h:NSt w0 b k s l ks w lv kv):w.cell? ⟨w0.heap.size+1,3,none⟩=some lv/\w.cell? ⟨w0.heap.size+1,4,none⟩=some kv/\w.frozen? ⟨w0.heap.size+1,3,none⟩=false/\w.frozen? ⟨w0.heap.size+1,4,none⟩=false:=
 ⟨(h.var.cell 3).trans rfl,(h.var.cell 4).trans rfl,h.var.frozen 3,h.var.frozen 4⟩
theorem NSt.grown {w0 w w1:World} {b:Nat} {k:Int} {s:Bs} {l:List Jv} {ks:List Bs} {lv kv:Value} (h:NSt w0 b k s l ks w lv kv) {o:Obj} {row:Option Nat} (dX:∀ x,row=some x->w0.heap.size+2<=x) (hgr:(w.alloc o).grownBy w1 row) :
  Blk w1 (w0.heap.size+1) 31 #[.int .i64 k,.int .i64 0,.string ⟨#[]⟩,lv,kv]:=by
 have hF:Fr (fun x=>row=some x) w w1:=(Fr.refl _ w |>.alloc o).grown hgr (fun j hj _=>hj);exact hF.blk h.var (fun e=>by have:=dX _ e;omega)
theorem NSt.drew {w0 w:World} {b:Nat} {k:Int} {s:Bs} {l:List Jv} {ks:List Bs} {lv kv:Value} (h:NSt w0 b k s l ks w lv kv):NSt w0 b k s l ks w.drew lv kv:=
 ⟨h.rd,h.res,h.var,h.rows.fr (Fr.refl NoB w).drew (fun _ _ e=>e),h.fr.drew,h.sz,h.len,h.keys⟩
theorem qD.form {lo:Nat} {w:World} {j:Jv} {v:Value} (h:qD lo w j v):∃ v0 v1 v2 v3 v4,v=.agg #[v0,v1,v2,v3,v4]/\∀ u∈[v0,v1,v2,v3,v4],u.oneCell'=true:=by
 cases j with
 | mk k i t l ks=>
  obtain ⟨lv,kv,cs,S,h1,h2,h3,h4,h5,h6,h7,h8,h9,yD⟩:=h;refine ⟨_,_,_,_,_,h1,?_⟩;rcases h7.2 with ⟨rfl,_⟩|⟨g1,c1,u1,rfl,_⟩<;>rcases h8.2 with ⟨rfl,_⟩|⟨g2,c2,u2,rfl,_⟩<;>simp [Value.oneCell']
theorem JRows.elems {lo:Nat} {w:World} {l:List Jv} {ks:List Bs} {lv kv:Value} (h:JRows lo w l ks lv kv):∃ cs,w.ownsRow lo 31 5 lv l.length cs:=by
 obtain ⟨cs,S,h1,_⟩:=h;exact ⟨cs,h1⟩
theorem NSt.item {w0 w w1 w2:World} {b:Nat} {k:Int} {s s':Bs} {l:List Jv} {ks:List Bs} {lv kv:Value} (h:NSt w0 b k s l ks w lv kv) (hb:b<w0.heap.size) (gs:rW w b s' w1) (hs:s'.length<s.length)
  {j:Jv} {v0 v1 v2 v3 v4:Value} (hj:qD w.heap.size w1 j (.agg #[v0,v1,v2,v3,v4])) (g cap:Nat) {cs:List Value} (o:Obj) (hcs:(w1.alloc o).ownsRow (w0.heap.size+2) 31 5 lv l.length cs)
  (hown:w2.ownsRow (w0.heap.size+2) 31 5 (.slice (some ⟨g,0,none⟩) (l.length+1) cap) (l.length+1) (cs++[v0,v1,v2,v3,v4])) (hgr:(w1.alloc o).grownBy w2 lv.ownBlock) (hat:lv.ownBlock=some g\/g=w1.heap.size+1) :
  NSt w0 b k s' (l++[j]) ks (w2.setCell ⟨w0.heap.size+1,3,none⟩ (.slice (some ⟨g,0,none⟩) (l.length+1) cap)) (.slice (some ⟨g,0,none⟩) (l.length+1) cap) kv:=by
 have st1:=h.goes hb gs (Nat.le_of_lt hs);have hsz:=h.sz;have zg:=st1.sz;have hg1:=gs.1.size;obtain ⟨cs0,FI⟩:=h.rows.elems;have MK:∀ x,lv.ownBlock=some x->w0.heap.size+2<=x/\x<w.heap.size:=fun x hx=>FI.lt x hx;have mc:∀ x,kv.ownBlock=some x->x<w.heap.size:=fun x hx=>(h.rows.keys.lt x hx).2;have ha:Fr NoB w1 (w1.alloc o):=(Fr.refl _ _).alloc _;have hra:=st1.rows.fr ha (fun _ _ e=>e);have hja:aG (lB w.heap.size w1.heap.size) (w1.alloc o) j (.agg #[v0,v1,v2,v3,v4]):=aG.fr (fun x hx=>ha.block x hx.2 (fun e=>e)) j _ hj.at_;have dX:=hra.item hja (by omega) (by simp) (fun x hx=>(MK x hx).2) mc g cap hcs hown hgr (by simpa using hat);have hF:Fr (fun x=>lv.ownBlock=some x) w1 w2:=(Fr.refl _ w1 |>.alloc o).grown hgr (fun j hj _=>hj);have hn:∀ x,x<w0.heap.size+2->¬ (lv.ownBlock=some x):=fun x hx e=>by have:=(MK x e).1;omega
 have hS:Fr (Only (w0.heap.size+1)) w2 (w2.setCell ⟨w0.heap.size+1,3,none⟩ (.slice (some ⟨g,0,none⟩) (l.length+1) cap)):=(Fr.refl _ w2).only _;refine ⟨(st1.rd.fr hF (hn b (by omega))).fr hS (fun e=>by have e':b=w0.heap.size+1:=e;omega),hS.blk (hF.blk st1.res (hn _ (by omega))) (fun e=>by have e':w0.heap.size=w0.heap.size+1:=e;omega),?_,dX.fr hS (fun x hx e=>by have e':x=w0.heap.size+1:=e;omega),?_,by have:=hF.size;simp [World.setCell];omega,by have:=h.len;simp;omega,by have:=h.keys.1;simp;omega,h.keys.2⟩
 ·have:=(hF.blk st1.var (hn _ (by omega))).aS 3 (.slice (some ⟨g,0,none⟩) (l.length+1) cap);simpa using this
 ·exact ((st1.fr.alloc o).grown hgr (fun j hj hlt=>absurd hlt (by have:=(MK j hj).1;omega))).setCell_new (p:=⟨w0.heap.size+1,3,none⟩) (by simp) _
theorem Mc {G:Prop} (w:World) (h:G) (_:wpAny Tryz.prog .any #[] (fun _ _ _=>True) 0 #[] ⟨#[],[]⟩ w):G:=h
theorem qz (b:Nat) (k n:Int) (v:Value) (w:World) (hn:32<=n) (_hn2:n<=64) :
  Calls Tryz.prog 177 #[.pointer (some ⟨b,0,none⟩),.int .i64 k,.int .i64 n,v] w fun e w'=>e=Wr 91/\Fr (Only b) w w':=by
 go_enter Tryz.func177,Tryz.ntmps177;go_wp2_with (go_at_call 130;((with_reducible refine (aE _ _ _ (by first|rfl|(simp;omega))).mono ?_);rintro e w2 ⟨rfl,rfl⟩));exact ⟨rfl,rfl,(Fr.refl _ _).alloc _⟩
theorem tS {B d:Nat} (hV:VC d) (obj:Bool) (close:UInt8) (b:Nat) (s:Bs) (n:Int) (w:World) (hx:Cx B w) (hB:B<=b) (h:Rd w b s) (hl:s.length<=65536) (hn:n=31 - (d:Int)) (hd:d<=31) :
  Calls Tryz.prog 177 #[.pointer (some ⟨b,0,none⟩),.int .i64 (rr obj),.int .i64 n,.string ⟨#[close]⟩] w (eV (qb (aD d) obj close s) b w):=by
 have ou:=h.lt;have HN:=hd' hn;have dx:0<=n:=by omega
 have Bq:n<=31:=by omega
 have hwr:IntKind.i64.wrap (n+1)=n+1:=IntWalk.i64_in _ (by omega);clear hn;have f0:Fr NoB w (w.alloc (.cells zj 31)):=(Fr.refl _ _).alloc _;have f1:Fr NoB w ((w.alloc (.cells zj 31)).alloc (.cells #[.int .i64 (rr obj),.int .i64 0,.string ⟨#[]⟩,.slice none 0 0,.slice none 0 0] 31)):=f0.alloc _;have r1:=h.fr f1 (fun e=>e);have g0:Blk ((w.alloc (.cells zj 31)).alloc (.cells #[.int .i64 (rr obj),.int .i64 0,.string ⟨#[]⟩,.slice none 0 0,.slice none 0 0] 31)) w.heap.size 31 zj:=(Blk.new w 31 zj).alloc _;have g1:Blk ((w.alloc (.cells zj 31)).alloc (.cells #[.int .i64 (rr obj),.int .i64 0,.string ⟨#[]⟩,.slice none 0 0,.slice none 0 0] 31)) (w.heap.size+1) 31 #[.int .i64 (rr obj),.int .i64 0,.string ⟨#[]⟩,.slice none 0 0,.slice none 0 0]:=by
  have:=Blk.new (w.alloc (.cells zj 31)) 31 #[.int .i64 (rr obj),.int .i64 0,.string ⟨#[]⟩,.slice none 0 0,.slice none 0 0];simpa using this
 unfold qb;cases ht:bK [close] s with
 | some s1=>
  have HT:=hd' ht;clear ht;change Calls _ _ _ _ (eV (.ok (.mk (rr obj) 0 [] [] [],s1)) b w);go_enter Tryz.func177,Tryz.ntmps177;go_wp2_with (first|(go_at_call 130;((with_reducible refine (aA _ _ _ (by first|rfl|(simp;done)|(simp;omega))).mono ?_);rintro e w2 ⟨rfl,rfl⟩))|(go_at_call 176;((with_reducible refine (ru r1 HT.out).mono ?_);rintro e w2 ⟨rfl,f2,r2⟩;have G0:=f2.blk g0 (fun e=>by have e':w.heap.size=b:=e;omega);have G1:=f2.blk g1 (fun e=>by have e':w.heap.size+1=b:=e;omega)))|(refine gI rfl _ rfl (w.heap.size+1) rfl G1 rfl ?_)|(refine wpList_store_row rfl 31 _ _ rfl w.heap.size #[.int .i64 (rr obj),.int .i64 0,.string ⟨#[]⟩,.slice none 0 0,.slice none 0 0] rfl rfl 31 zj G0 ah rfl (bU _ _ _ _ _ _ _ _ _) ?_));have st:NSt w b (rr obj) s1 [] [] w2 (.slice none 0 0) (.slice none 0 0):=⟨r2,G0,G1,JRows.nil _ _,f1.cT.trans f2,by have:=f2.size;simp at this;omega,by have:=dc HT.out;simp;omega,by simp⟩;have gB:=G0.setRow #[.int .i64 (rr obj),.int .i64 0,.string ⟨#[]⟩,.slice none 0 0,.slice none 0 0];have dn:=st.done ou (QC obj);exact bodyPost_ret (v:=jV (rr obj) 0 [] (.slice none 0 0) (.slice none 0 0)) (bG rfl _ _ w.heap.size _ _ _ _ _ rfl gB) rfl dn
 | none=>
  have HT:=hd' ht;clear ht;obtain ⟨i0,jv,hz0,hz1,hz2⟩:=info_parts oB;have HI:Hid (XW w b obj (gU (aD d) obj close (s.length+1) s [] []) (aD d) close (s.length+1) ((w.alloc (.cells zj 31)).alloc (.cells #[.int .i64 (rr obj),.int .i64 0,.string ⟨#[]⟩,.slice none 0 0,.slice none 0 0] 31))):=
   hd' ⟨s,[],[],_,_,⟨r1,g0,g1,JRows.nil _ _,f1.cT,by simp,by simp;omega,by simp⟩,by simp,rfl,by omega⟩
  change Calls _ _ _ _ (eV (gU (aD d) obj close (s.length+1) s [] []) b w);generalize gU (aD d) obj close (s.length+1) s [] []=q at HI;go_enter Tryz.func177,Tryz.ntmps177;go_wp2_with (first|(go_at_call 130;((with_reducible refine (aA _ _ _ (by first|rfl|(simp;done)|(simp;omega))).mono ?_);rintro e w2 ⟨rfl,rfl⟩))|(go_at_call 176;((with_reducible refine (l8 r1 HT.out).mono ?_);rintro e w2 ⟨rfl,rfl⟩)));go_loopg [] (s.length+1) (fun gk wr=>XW w b obj q (aD d) close gk wr)
  case atStart=>exact HI.out
  case round=>
   clear HI HT g0 g1 r1 f1 f0;obtain ⟨t,l,ks,lv,kv,st,jU,hq,hlt⟩:=hrel;obtain ⟨f,rfl⟩:∃ f,gk=f+1:=⟨gk - 1,by omega⟩;rw [Dy] at hq;have HQ:=hd' hq;clear hq;have yt:=hx.fr st.fr (fun k e=>by rw [show k=b from e];exact hB);have hlen:=st.len;go_upto_if 21 with fail;go_cut [] (fun wx=>ac3 w b obj q (aD d) close f t.length wx)
   case first=>
    cases obj with
    | false=>
     have hq:wQ (aD d) false close f t l ks=q:=HQ.out;have DV:=hd' hq;clear hq HQ;have hk:rr false=5:=rfl;go_wp2_with fail;go_meet;exact ⟨t,l,ks,lv,kv,st,DV.out,Nat.le_refl _⟩
    | true=>
     have hk:rr true=6:=rfl;have cj:=rY b t wr yt hB st.rd (by omega);have GW:BL true t ks=(match gM t with|none=>.error 90|some (key,s1)=>if ks.contains key then .error 94 else match bK [58] s1 with|none=>.error 90|some s2=>.ok (ks++[key],s2)):=rfl;cases TU:gM t with
     | none=>
      (have e:q=.error 90:=by rw [<- HQ.out,GW,TU]);subst e;rw [TU] at cj;have HS:=hd' cj;clear cj GW HQ TU;go_wp2_with (go_at_call 175;((with_reducible refine HS.out.mono ?_);rintro e w1 ⟨rfl,f1⟩));exact ⟨rfl,rfl,st.fr.trans f1⟩
     | some p=>
      obtain ⟨key,s1⟩:=p;have hs1:=mL TU;have hkey:=sc (by omega) TU;rw [TU] at cj GW;simp only at GW;have HS:=hd' cj;(have gH:ks.length<=big:=by unfold big;omega);clear cj TU;cases QD:ks.contains key with
      | true=>
       (have e:q=.error 94:=by rw [<- HQ.out,GW,QD];rfl);subst e;have HC:=hd' QD;clear GW HQ QD;go_wp2_with (first|(go_at_call 175;((with_reducible refine HS.out.mono ?_);rintro e w1 ⟨rfl,f1⟩;have st1:=st.goes ou f1 (by omega);obtain ⟨c3,c4,z3,z4⟩:=st1.cells))|(go_at_call 213;((with_reducible refine (kU ks kv key _ st1.rows.keys gH).mono ?_);rintro e w2 ⟨rfl,rfl⟩;rw [HC.out]))|(go_at_call 130;((with_reducible refine (aE _ _ _ (by rfl)).mono ?_);rintro e w3 ⟨rfl,rfl⟩)));exact ⟨rfl,rfl,st1.fr⟩
      | false=>
       have HC:=hd' QD;cases lK:bK [58] s1 with
       | none=>
        (have e:q=.error 90:=by rw [<- HQ.out,GW,QD,lK];rfl);subst e;have HT:=hd' lK;clear GW HQ QD lK;go_wp2_with (first|(go_at_call 175;((with_reducible refine HS.out.mono ?_);rintro e w1 ⟨rfl,f1⟩;have st1:=st.goes ou f1 (by omega);obtain ⟨c3,c4,z3,z4⟩:=st1.cells))|(go_at_call 213;((with_reducible refine (kU ks kv key _ st1.rows.keys gH).mono ?_);rintro e w2 ⟨rfl,rfl⟩;rw [HC.out]))|(go_at_call 130;first|((with_reducible refine (aA _ _ _ (by rfl)).mono ?_);rintro e w3 ⟨rfl,rfl⟩)|((with_reducible refine (aE _ _ _ (by rfl)).mono ?_);rintro e w3 ⟨rfl,rfl⟩))|(go_at_call 176;((with_reducible refine (l8 st1.rd HT.out).mono ?_);rintro e w4 ⟨rfl,rfl⟩)));exact ⟨rfl,rfl,st1.fr⟩
       | some s2=>
        (have e:wQ (aD d) true close f s2 l (ks++[key])=q:=by rw [<- HQ.out,GW,QD,lK];rfl);have HE:=hd' e;have HT:=hd' lK;have qP:=dc lK;clear GW HQ QD lK e;go_wp2_with (first|(go_at_call 175;((with_reducible refine HS.out.mono ?_);rintro e w1 ⟨rfl,f1⟩;have st1:=st.goes ou f1 (by omega);obtain ⟨c3,c4,z3,z4⟩:=st1.cells))|(go_at_call 213;((with_reducible refine (kU ks kv key _ st1.rows.keys gH).mono ?_);rintro e w2 ⟨rfl,rfl⟩;rw [HC.out]))|(go_at_call 130;((with_reducible refine (aA _ _ _ (by rfl)).mono ?_);rintro e w3 ⟨rfl,rfl⟩))|(go_at_call 176;((with_reducible refine (ru st1.rd HT.out).mono ?_);rintro e w4 ⟨rfl,f4⟩;have CC:=st1.goes ou f4 (by omega);clear c3 c4 z3 z4;obtain ⟨c3,c4,z3,z4⟩:=CC.cells;have Qr:=CC.sz))|(at_builtin;refine wpList_append_lies _ rfl _ _ 29 rfl (w.heap.size+2) 9 i0 (.string ⟨#[]⟩) 1 16 Tryz.underlying29 jv hz0 hz1 hz2 rfl (by decide) kv ks.length (ks.map sV) rfl (CC.rows.keys.alloc _) ⟨w4.heap.size,0,none⟩ 1 1 [sV key] rfl rfl (cell_one_new _ _ _) (by intro u hu;rw [List.mem_singleton] at hu;subst hu;rfl) (by omega) (by unfold maxLen;omega) (by omega) (by simp;omega) (w4.heap.size+1) (by simp) ?_;intro g cap w5 hown hgr hat qF;have st5:=CC.key ou jU key (by unfold big;omega) g cap _ hown hgr hat;have B5:=CC.grown (fun x hx=>(CC.rows.keys.lt x hx).1) hgr;have c5:w5.cell? ⟨w.heap.size+1,4,none⟩=some kv:=(B5.cell 4).trans rfl;have z5:=B5.frozen 4));go_meet;exact ⟨s2,l,ks++[key],lv,_,st5,HE.out,by omega⟩
   case rest=>
    clear st HQ yt hlen jU;obtain ⟨s2,m,ns,lx,kx,sx,hq,hle⟩:=hcut;have yt:=hx.fr sx.fr (fun k e=>by rw [show k=b from e];exact hB);have hlen:=sx.len;obtain ⟨c3,c4,z3,z4⟩:=sx.cells;have HQ:=hd' hq;clear hq;cases hv:aD d s2 with
    | error e=>
     (have eq:q=.error e:=by rw [<- HQ.out];unfold wQ;rw [hv]);subst eq;have HV:Hid (∀ w':World,Cx B w'->Rd w' b s2->Calls Tryz.prog 129 #[.pointer (some ⟨b,0,none⟩),.int .i64 (n+1)] w' (eV (.error e) b w')):=hd' (fun w' vp TV=>by have:=hV b s2 (n+1) w' vp hB TV (by omega) (by have:=HN.out;omega);rwa [hv] at this);clear hv HQ;go_wp2_with fail;go_region_with (first|(go_at_call 129;((with_reducible refine (HV.out _ (yt.eG (Fr.refl NoB _).drew) sx.drew.rd).mono ?_);rintro e w1 ⟨rfl,f1⟩;refine Mc w1 ?_ ?_;(first|exact ⟨rfl,rfl,sx.fr.drew.trans f1⟩|(go_simp;exact ⟨rfl,rfl,sx.fr.drew.trans f1⟩)))));all_goals trivial
    | ok p=>
     obtain ⟨j,s3⟩:=p;have Zl:=Dt d s2 j s3 hv;(have ub:(match bK [close] s3 with|some s4=>.ok (.mk (rr obj) 0 [] (m++[j]) ns,s4)|none=>match bK [44] s3 with|none=>.error 90|some s4=>gU (aD d) obj close f s4 (m++[j]) ns)=q:=by rw [<- HQ.out];unfold wQ;rw [hv];rfl);have DV:=hd' ub;have HV:Hid (∀ w':World,Cx B w'->Rd w' b s2->Calls Tryz.prog 129 #[.pointer (some ⟨b,0,none⟩),.int .i64 (n+1)] w' (eV (.ok (j,s3)) b w')):=hd' (fun w' vp TV=>by have:=hV b s2 (n+1) w' vp hB TV (by omega) (by have:=HN.out;omega);rwa [hv] at this);clear hv HQ ub;obtain ⟨i1,IG,nw,um,yy⟩:=info_parts mv;obtain ⟨cs,hcs⟩:=sx.rows.elems;go_upto_region 10 with fail;go_cut [] (fun wy=>∃ lv',NSt w b (rr obj) s3 (m++[j]) ns wy lv' kx)
     case first=>
      go_region_law (first|(refine step_append_lies _ (by rfl) _ _ _ (by rfl) (w.heap.size+2) 31 i1 (jV 0 0 [] (.slice none 0 0) (.slice none 0 0)) 5 80 Tryz.underlying28 IG nw um yy (by rfl) (by decide) lx m.length cs (by rfl) (TW.alloc _) ⟨w1.heap.size,0,none⟩ 1 1 [v0,v1,v2,v3,v4] (by rfl) (by rfl) (World.news_of_block (cs := #[v0,v1,v2,v3,v4]) (t:=31) (fr:=(0,0)) (heap_alloc_new w1 _)) h1c (by omega) (by unfold maxLen;omega) (by omega) (by simp;omega) (w1.heap.size+1) (by simp) ?_;intro g cap w2 hown hgr hat qF;have st2:=sx.drew.item ou g1 Zl hj1 g cap _ (TW.alloc _) hown hgr hat;have B5:=st1.grown (fun x hx=>(TW.lt x hx).1) hgr;have c5:w2.cell? ⟨w.heap.size+1,3,none⟩=some lx:=(B5.cell 3).trans rfl;have z5:=B5.frozen 3)|(go_simp;go_at_call 129;((with_reducible refine (HV.out _ (yt.eG (Fr.refl NoB _).drew) sx.drew.rd).mono ?_);rintro e w1 ⟨v,rfl,hj1,g1⟩;obtain ⟨v0,v1,v2,v3,v4,rfl,h1c⟩:=hj1.form;have st1:=sx.drew.goes ou g1 (by omega);obtain ⟨d3,d4,y3,y4⟩:=st1.cells;have hz1:=st1.sz;have dA:(w1.alloc (.cells #[v0,v1,v2,v3,v4] 31)).cell? ⟨w.heap.size+1,3,none⟩=some lx:=((st1.var.alloc _).cell 3).trans rfl;have TW:=g1.1.row (hcs.drew) (fun x hx e=>by have e':x=b:=e;have:=(hcs.lt x hx).1;omega))));all_goals (go_wp2_with fail;go_meet;exact ⟨_,st2⟩)
     case rest=>
      have gH:=sx.keys.1;clear c3 c4 z3 z4 hcs yt HV;obtain ⟨ly,sy⟩:=hcut;cases lK:bK [close] s3 with
      | some s4=>
       (have e:q=.ok (.mk (rr obj) 0 [] (m++[j]) ns,s4):=by rw [<- DV.out,lK]);subst e;have HT:=hd' lK;have Xb:=dc lK;clear lK DV;go_wp2_with (first|(go_at_call 176;((with_reducible refine (ru sy.rd HT.out).mono ?_);rintro e w2 ⟨rfl,f2⟩;have st:=sy.goes ou f2 (by simp at Xb;omega);have G0:=st.res;have G1:=st.var))|(refine gI rfl _ rfl (w.heap.size+1) rfl G1 rfl ?_)|(refine wpList_store_row rfl 31 _ _ rfl w.heap.size #[.int .i64 (rr obj),.int .i64 0,.string ⟨#[]⟩,ly,kx] rfl rfl 31 zj G0 ah rfl (st.rows.one _ _ _) ?_));have gB:=G0.setRow #[.int .i64 (rr obj),.int .i64 0,.string ⟨#[]⟩,ly,kx];have dn:=st.done ou (QC obj);exact bodyPost_ret (v:=jV (rr obj) 0 [] ly kx) (bG rfl _ _ w.heap.size _ _ _ _ _ rfl gB) rfl dn
      | none=>
       have HT:=hd' lK;(have IJ:(match bK [44] s3 with|none=>.error 90|some s4=>gU (aD d) obj close f s4 (m++[j]) ns)=q:=by rw [<- DV.out,lK]);clear lK DV;cases TY:bK [44] s3 with
       | none=>
        have HM:=hd' TY;rw [TY] at IJ;subst IJ;clear TY;have zu:True:=trivial;go_wp2_with (first|(go_at_call 176;have _t:=zu;((with_reducible refine (l8 sy.rd HT.out).mono ?_);rintro e w2 ⟨rfl,rfl⟩;clear zu))|(go_at_call 176;((with_reducible refine (l8 sy.rd HM.out).mono ?_);rintro e w2 ⟨rfl,rfl⟩))|(go_at_call 130;((with_reducible refine (aE _ _ _ (by rfl)).mono ?_);rintro e w3 ⟨rfl,rfl⟩)));exact ⟨rfl,rfl,sy.fr⟩
       | some s4=>
        have HM:=hd' TY;have Xb:=dc TY;rw [TY] at IJ;have HQ3:=hd' IJ;clear TY IJ;have zu:True:=trivial;go_wp2_with (first|(go_at_call 176;have _t:=zu;((with_reducible refine (l8 sy.rd HT.out).mono ?_);rintro e w2 ⟨rfl,rfl⟩;clear zu))|(go_at_call 176;((with_reducible refine (ru sy.rd HM.out).mono ?_);rintro e w2 ⟨rfl,f2⟩;have st:=sy.goes ou f2 (by simp at Xb;omega)))|(go_at_call 130;((with_reducible refine (aA _ _ _ (by rfl)).mono ?_);rintro e w3 ⟨rfl,rfl⟩)));go_roundg f
        case measure=>omega
        case rel=>exact ⟨s4,m++[j],ns,ly,kx,st,by simp;omega,HQ3.out,by simp at Xb;omega⟩
theorem qD.fr {T:Nat->Prop} {lo lo':Nat} {w w':World} {j:Jv} {v:Value} (h:qD lo w j v) (f:Fr T w w') (hT:∀ g,lo<=g->¬ T g) (cN:lo'<=lo):qD lo' w' j v:=by
 cases j with
 | mk k i t l ks=>
  obtain ⟨lv,kv,cs,S,h1,h2,h3,h4,h5,h6,h7,h8,h9,yD⟩:=h;exact ⟨lv,kv,cs,S,h1,h2,h3,h4,h5,h6,(f.row h7 (fun g hg=>hT g (h7.lt g hg).1)).mono cN,(f.row h8 (fun g hg=>hT g (h8.lt g hg).1)).mono cN,aq.fr (fun g hg=>f.block g (yD g hg).2.1 (hT g (yD g hg).1)) l cs h9,
   fun g hg=>by obtain ⟨a,b,c,d⟩:=yD g hg;exact ⟨by omega,Nat.lt_of_lt_of_le b f.size,c,d⟩⟩
theorem tT {B:Nat} (b:Nat) (s:Bs) (n:Int) (w:World) (q:Pr) (hx:Cx B w) (hB:B<=b) (h:Rd w b s) (hh:s.head?=some 91)
  (hN:∀ w',Cx B w'->Rd w' b (blanks (s.drop 1))->Calls Tryz.prog 177 #[.pointer (some ⟨b,0,none⟩),.int .i64 5,.int .i64 n,.string ⟨#[93]⟩] w' (eV q b w')) :
  Calls Tryz.prog 129 #[.pointer (some ⟨b,0,none⟩),.int .i64 n] w (eV q b w):=by
 have f0:Fr NoB w (w.alloc (.cells zj 31)):=(Fr.refl _ _).alloc _;have r0:=h.fr f0 (fun e=>e);have hc:=r0.cell;have ou:=h.lt;have pn:∀ c:UInt8,s.head?≠some c->Lib.hasPrefix s [c]=false:=fun c hn=>by
  cases hp:Lib.hasPrefix s [c]
  ·rfl
  ·exact absurd (eu.1 hp) hn
 have P1:=hd' (pn 34 (by rw [hh];simp));have PO:=hd' (eu.2 hh);clear pn hh;have HN:=hd' hN;clear hN;cases q with
 | error e=>
  go_enter Tryz.func129,Tryz.ntmps129;go_wp2_with (first|(go_at_call 174;((with_reducible refine (aI s [34] _).mono ?_);rintro e w1 ⟨rfl,rfl⟩;rw [P1.out]))|(go_at_call 176;((with_reducible refine (eU b s [91] _ r0 PO.out).mono ?_);rintro e w1 ⟨rfl,f1,r1⟩;have R1:Rd w1 b (blanks (s.drop 1)):=r1;have X1:=(hx.eG f0).fr f1 (fun k e=>by rw [show k=b from e];exact hB)))|(go_at_call 177;((with_reducible refine (HN.out _ X1 R1).mono ?_);rintro e w2 ⟨rfl,f2⟩)));exact ⟨rfl,rfl,(f0.cT.trans f1).trans f2⟩
 | ok p=>
  obtain ⟨j,r⟩:=p;go_enter Tryz.func129,Tryz.ntmps129;go_wp2_with (first|(go_at_call 174;((with_reducible refine (aI s [34] _).mono ?_);rintro e w1 ⟨rfl,rfl⟩;rw [P1.out]))|(go_at_call 176;((with_reducible refine (eU b s [91] _ r0 PO.out).mono ?_);rintro e w1 ⟨rfl,f1,r1⟩;have R1:Rd w1 b (blanks (s.drop 1)):=r1;have X1:=(hx.eG f0).fr f1 (fun k e=>by rw [show k=b from e];exact hB)))|(go_at_call 177;((with_reducible refine (HN.out _ X1 R1).mono ?_);rintro e w2 ⟨v,rfl,hj,f2,r2⟩;obtain ⟨v0,v1,v2,v3,v4,rfl,h1c⟩:=hj.form;have g1:=f2.blk (f1.blk (Blk.new w 31 zj) (fun e=>by have e':w.heap.size=b:=e;omega)) (fun e=>by have e':w.heap.size=b:=e;omega)))|(refine wpList_store_row rfl 31 _ _ rfl w.heap.size #[v0,v1,v2,v3,v4] rfl rfl 31 zj g1 ah rfl (dp h1c) ?_));have gB:=g1.setRow #[v0,v1,v2,v3,v4];have hs1:=f1.size;simp only [World.size_alloc] at hs1;have fO:=Fr.eE w2 w.heap.size #[v0,v1,v2,v3,v4];exact bodyPost_ret (v:=.agg #[v0,v1,v2,v3,v4]) (bG rfl _ _ w.heap.size _ _ _ _ _ rfl gB) rfl ⟨_,rfl,hj.fr fO (fun g hg e=>by have e':g=w.heap.size:=e;omega) (by omega),((f0.cT.trans f1).trans f2).setRow w.heap.size _ (Or.inl (Nat.le_refl _)),r2.fr fO (fun e=>by have e':b=w.heap.size:=e;omega)⟩
theorem wR {B:Nat} (b:Nat) (s:Bs) (n:Int) (w:World) (q:Pr) (hx:Cx B w) (hB:B<=b) (h:Rd w b s) (hh:s.head?=some 123)
  (hN:∀ w',Cx B w'->Rd w' b (blanks (s.drop 1))->Calls Tryz.prog 177 #[.pointer (some ⟨b,0,none⟩),.int .i64 6,.int .i64 n,.string ⟨#[125]⟩] w' (eV q b w')) :
  Calls Tryz.prog 129 #[.pointer (some ⟨b,0,none⟩),.int .i64 n] w (eV q b w):=by
 have f0:Fr NoB w (w.alloc (.cells zj 31)):=(Fr.refl _ _).alloc _;have r0:=h.fr f0 (fun e=>e);have hc:=r0.cell;have ou:=h.lt;have pn:∀ c:UInt8,s.head?≠some c->Lib.hasPrefix s [c]=false:=fun c hn=>by
  cases hp:Lib.hasPrefix s [c]
  ·rfl
  ·exact absurd (eu.1 hp) hn
 have P1:=hd' (pn 34 (by rw [hh];simp));have P2:=hd' (pn 91 (by rw [hh];simp));have PO:=hd' (eu.2 hh);clear pn hh;have HN:=hd' hN;clear hN;cases q with
 | error e=>
  go_enter Tryz.func129,Tryz.ntmps129;go_wp2_with (first|(go_at_call 174;((with_reducible refine (aI s [34] _).mono ?_);rintro e w1 ⟨rfl,rfl⟩;rw [P1.out]))|(go_at_call 176;((with_reducible refine (aZ b s [91] _ r0 P2.out).mono ?_);rintro e w1 ⟨rfl,rfl⟩))|(go_at_call 176;((with_reducible refine (eU b s [123] _ r0 PO.out).mono ?_);rintro e w1 ⟨rfl,f1,r1⟩;have R1:Rd w1 b (blanks (s.drop 1)):=r1;have X1:=(hx.eG f0).fr f1 (fun k e=>by rw [show k=b from e];exact hB)))|(go_at_call 177;((with_reducible refine (HN.out _ X1 R1).mono ?_);rintro e w2 ⟨rfl,f2⟩)));exact ⟨rfl,rfl,(f0.cT.trans f1).trans f2⟩
 | ok p=>
  obtain ⟨j,r⟩:=p;go_enter Tryz.func129,Tryz.ntmps129;go_wp2_with (first|(go_at_call 174;((with_reducible refine (aI s [34] _).mono ?_);rintro e w1 ⟨rfl,rfl⟩;rw [P1.out]))|(go_at_call 176;((with_reducible refine (aZ b s [91] _ r0 P2.out).mono ?_);rintro e w1 ⟨rfl,rfl⟩))|(go_at_call 176;((with_reducible refine (eU b s [123] _ r0 PO.out).mono ?_);rintro e w1 ⟨rfl,f1,r1⟩;have R1:Rd w1 b (blanks (s.drop 1)):=r1;have X1:=(hx.eG f0).fr f1 (fun k e=>by rw [show k=b from e];exact hB)))|(go_at_call 177;((with_reducible refine (HN.out _ X1 R1).mono ?_);rintro e w2 ⟨v,rfl,hj,f2,r2⟩;obtain ⟨v0,v1,v2,v3,v4,rfl,h1c⟩:=hj.form;have g1:=f2.blk (f1.blk (Blk.new w 31 zj) (fun e=>by have e':w.heap.size=b:=e;omega)) (fun e=>by have e':w.heap.size=b:=e;omega)))|(refine wpList_store_row rfl 31 _ _ rfl w.heap.size #[v0,v1,v2,v3,v4] rfl rfl 31 zj g1 ah rfl (dp h1c) ?_));have gB:=g1.setRow #[v0,v1,v2,v3,v4];have hs1:=f1.size;simp only [World.size_alloc] at hs1;have fO:=Fr.eE w2 w.heap.size #[v0,v1,v2,v3,v4];exact bodyPost_ret (v:=.agg #[v0,v1,v2,v3,v4]) (bG rfl _ _ w.heap.size _ _ _ _ _ rfl gB) rfl ⟨_,rfl,hj.fr fO (fun g hg e=>by have e':g=w.heap.size:=e;omega) (by omega),((f0.cT.trans f1).trans f2).setRow w.heap.size _ (Or.inl (Nat.le_refl _)),r2.fr fO (fun e=>by have e':b=w.heap.size:=e;omega)⟩
theorem Md:∀ d,d<=32->VC d:=by
 intro d;induction d with
 | zero=>
  intro _ B b s n w hx hB h hl hn;by_cases h1:s.head?=some 34
  ·exact se 0 b s n w hx hB h hl h1
  by_cases h2:s.head?=some 91
  ·have hq:aD 0 s=.error 91:=by unfold aD;rw [h2];rfl
   rw [hq];exact tT b s n w _ hx hB h h2 (fun w' _ hr=>(qz b 5 n _ w' (by omega) (by omega)).mono fun e w'' he=>he)
  by_cases h3:s.head?=some 123
  ·have hq:aD 0 s=.error 91:=by unfold aD;rw [h3];rfl
   rw [hq];exact wR b s n w _ hx hB h h3 (fun w' _ hr=>(qz b 6 n _ w' (by omega) (by omega)).mono fun e w'' he=>he)
  exact tR 0 b s n w hx hB h hl h1 h2 h3
 | succ d ih=>
  intro hd B b s n w hx hB h hl hn;have ju:(blanks (s.drop 1)).length<=65536:=by have:=fI (s.drop 1);simp only [List.length_drop] at this;omega
  by_cases h1:s.head?=some 34
  ·exact se (d+1) b s n w hx hB h hl h1
  by_cases h2:s.head?=some 91
  ·have hq:aD (d+1) s=qb (aD d) false 93 (blanks (s.drop 1)):=by rw [aD,h2];rfl
   rw [hq];exact tT b s n w _ hx hB h h2 (fun w' vp hr=>tS (ih (by omega)) false 93 b _ n w' vp hB hr ju (by omega) (by omega))
  by_cases h3:s.head?=some 123
  ·have hq:aD (d+1) s=qb (aD d) true 125 (blanks (s.drop 1)):=by rw [aD,h3];rfl
   rw [hq];exact wR b s n w _ hx hB h h3 (fun w' vp hr=>tS (ih (by omega)) true 125 b _ n w' vp hB hr ju (by omega) (by omega))
  exact tR (d+1) b s n w hx hB h hl h1 h2 h3
theorem sw (w:World) (g:Nat) (n:Int) (hb:Blk w g 32 #[.int .i64 n]):(loadVar 32 ⟨g,0,none⟩).run Tryz.prog w=.ok (.int .i64 n) w:=by
 have hc:w.cell? ⟨g,0,none⟩=some (.int .i64 n):=(hb.cell 0).trans rfl;simp [loadVar,isAgg,run_underlying Tryz.underlying32,hc,go_sem]
theorem kV {fn:Func} (h:fn.results = #[.cell 2 31,.cell 3 32]) (tmps:Array Value) (w:World) (g e:Nat) (v0 v1 v2 v3 v4:Value) (n:Int)
  (hp:tmps.getD 2 undef=.pointer (some ⟨g,0,none⟩)) (hq:tmps.getD 3 undef=.pointer (some ⟨e,0,none⟩)) (hb:Blk w g 31 #[v0,v1,v2,v3,v4]) (he:Blk w e 32 #[.int .i64 n]) :
  (results fn tmps).run Tryz.prog w=.ok (.tuple #[.agg #[v0,v1,v2,v3,v4],.int .i64 n]) w:=by
 have ph:tmps[2]?.getD undef=.pointer (some ⟨g,0,none⟩):=by simpa using hp
 have hq':tmps[3]?.getD undef=.pointer (some ⟨e,0,none⟩):=by simpa using hq
 simp [results,h,ph,hq',asAddr,run_loadVar_row w g 31 31 _ (0,0) _ hb Tryz.underlying31 rfl ah,sw w e n he]
def XX (q:Except Nat Jv) (w:World) (e:Ending) (w':World):Prop:=
 match q with
 | .ok j=>∃ v,e=.returned (.tuple #[v,.int .i64 0])/\qD w.heap.size w' j v/\Fr NoB w w'
 | .error n=>e=.returned (.tuple #[jV 0 0 [] (.slice none 0 0) (.slice none 0 0),.int .i64 (n:Int)])/\Fr NoB w w'
theorem FX {B:Nat} (s:Bs) (w:World) (hx:Cx B w) (hl:s.length<=9223372036854775807):Calls Tryz.prog 77 #[.string ⟨s.toArray⟩] w (XX (gX s) w):=by
 have vT:=hx.le;have f0:Fr NoB w ((w.alloc (.cells zj 31)).alloc (.cells #[.int .i64 0] 32)):=((Fr.refl _ _).alloc _).alloc _;have g0:Blk ((w.alloc (.cells zj 31)).alloc (.cells #[.int .i64 0] 32)) w.heap.size 31 zj:=(Blk.new w 31 zj).alloc _;have g1:Blk ((w.alloc (.cells zj 31)).alloc (.cells #[.int .i64 0] 32)) (w.heap.size+1) 32 #[.int .i64 0]:=by
  have:=Blk.new (w.alloc (.cells zj 31)) 32 #[.int .i64 0];simpa using this
 by_cases QE:65536<s.length
 ·have hq:gX s=.error 92:=by unfold gX;rw [if_pos QE]
  rw [hq];clear hq;have fO:=Fr.eE ((w.alloc (.cells zj 31)).alloc (.cells #[.int .i64 0] 32)) w.heap.size zj;have gA:=g0.setRow zj;have gB:=fO.blk g1 (fun e=>by have e':w.heap.size+1=w.heap.size:=e;omega);have hc1:(((w.alloc (.cells zj 31)).alloc (.cells #[.int .i64 0] 32)).setRow w.heap.size zj).cell? ⟨w.heap.size+1,0,none⟩=some (.int .i64 0):=(gB.cell 0).trans rfl;have hz1:=gB.frozen 0;go_enter_defers Tryz.func77,Tryz.ntmps77;go_wp2_with (first|(refine gI rfl _ rfl w.heap.size rfl g0 rfl ?_)|(refine wpList_store_row rfl 31 _ _ rfl w.heap.size zj rfl rfl 31 zj g0 ah rfl (bU _ _ _ _ _ _ _ _ _) ?_));have gC:=gB.aS 0 (.int .i64 92);have gD:=gA.far (p:=⟨w.heap.size+1,0,none⟩) (by simp) (.int .i64 92);exact ⟨_,kV rfl _ _ w.heap.size (w.heap.size+1) _ _ _ _ _ _ rfl rfl gD gC,rfl,(f0.setRow w.heap.size zj (Or.inl (Nat.le_refl _))).setCell_new (p:=⟨w.heap.size+1,0,none⟩) (by simp) _⟩
 ·have f1:Fr NoB w (((w.alloc (.cells zj 31)).alloc (.cells #[.int .i64 0] 32)).alloc (.cells #[.string ⟨s.toArray⟩] 189)):=f0.alloc _;have r1:Rd (((w.alloc (.cells zj 31)).alloc (.cells #[.int .i64 0] 32)).alloc (.cells #[.string ⟨s.toArray⟩] 189)) (w.heap.size+2) s:=by
   have:=Blk.new ((w.alloc (.cells zj 31)).alloc (.cells #[.int .i64 0] 32)) 189 #[.string ⟨s.toArray⟩];unfold Rd;simpa using this
  have Gf:=g0.alloc (.cells #[.string ⟨s.toArray⟩] 189);have RR:=g1.alloc (.cells #[.string ⟨s.toArray⟩] 189);have X1:=hx.eG f1;have ju:=fI s;generalize hW:(((w.alloc (.cells zj 31)).alloc (.cells #[.int .i64 0] 32)).alloc (.cells #[.string ⟨s.toArray⟩] 189))=W at f1 r1 Gf RR X1;have HW:=hd' hW;clear hW;have hq:gX s=(match aD 32 (blanks s) with | .error e=>.error e | .ok (v,r)=>if r=[] then .ok v else .error 90):=by
   unfold gX;rw [if_neg QE];rfl
  cases hv:aD 32 (blanks s) with
  | error e=>
   have ub:gX s=.error e:=by rw [hq,hv]
   rw [ub];have HV:Hid (∀ w':World,Cx B w'->Rd w' (w.heap.size+2) (blanks s)->Calls Tryz.prog 129 #[.pointer (some ⟨w.heap.size+2,0,none⟩),.int .i64 0] w' (eV (.error e) (w.heap.size+2) w')):=hd' (fun w' vp TV=>by have:=Md 32 (Nat.le_refl _) (w.heap.size+2) (blanks s) 0 w' vp (by omega) TV (by omega) (by simp);rwa [hv] at this);clear hq hv ub;go_enter_defers Tryz.func77,Tryz.ntmps77;go_wp2_with (first|(rw [HW.out];go_at_call 128;((with_reducible refine (kS _ s _ r1).mono ?_);rintro e w1 ⟨rfl,f2,r2⟩;have X2:=X1.fr f2 (fun k e=>by rw [show k=w.heap.size+2 from e];omega)))|(go_at_call 129;((with_reducible refine (HV.out _ X2 r2).mono ?_);rintro e w2 ⟨rfl,f3⟩)));have g0a:=f3.blk (f2.blk Gf (fun e=>by have e':w.heap.size=w.heap.size+2:=e;omega)) (fun e=>by have e':w.heap.size=w.heap.size+2:=e;omega);have Zs:=f3.blk (f2.blk RR (fun e=>by have e':w.heap.size+1=w.heap.size+2:=e;omega)) (fun e=>by have e':w.heap.size+1=w.heap.size+2:=e;omega);have fin:=f1.andThen (f2.trans f3) (fun j hj e=>by have e':j=w.heap.size+2:=e;omega);refine leaves_cons (f:=78) (args := #[.pointer (some ⟨w.heap.size+1,0,none⟩)]) (by simp) (by simp [go_sem]) ?_;refine (gZ ⟨w.heap.size+1,0,none⟩ 0 e [] w2 ((Zs.cell 0).trans rfl) (Zs.frozen 0) Zs.lt).mono ?_;rintro e' u' w3 ⟨rfl,rfl,rfl⟩;exact ⟨_,kV rfl _ _ w.heap.size (w.heap.size+1) _ _ _ _ _ _ rfl rfl ((g0a.alloc _).far (p:=⟨w.heap.size+1,0,none⟩) (by simp) _) ((Zs.alloc _).aS 0 _),rfl,(fin.alloc _).setCell_new (p:=⟨w.heap.size+1,0,none⟩) (by simp) _⟩
  | ok p=>
   obtain ⟨j,r⟩:=p;have HV:Hid (∀ w':World,Cx B w'->Rd w' (w.heap.size+2) (blanks s)->Calls Tryz.prog 129 #[.pointer (some ⟨w.heap.size+2,0,none⟩),.int .i64 0] w' (eV (.ok (j,r)) (w.heap.size+2) w')):=hd' (fun w' vp TV=>by have:=Md 32 (Nat.le_refl _) (w.heap.size+2) (blanks s) 0 w' vp (by omega) TV (by omega) (by simp);rwa [hv] at this);have ub:gX s=if r=[] then .ok j else .error 90:=by rw [hq,hv]
   by_cases hr:r=[]
   ·(have IJ:gX s=.ok j:=by rw [ub,if_pos hr]);rw [IJ];subst hr;clear hq hv ub IJ;go_enter_defers Tryz.func77,Tryz.ntmps77;go_wp2_with (first|(rw [HW.out];go_at_call 128;((with_reducible refine (kS _ s _ r1).mono ?_);rintro e w1 ⟨rfl,f2,r2⟩;have X2:=X1.fr f2 (fun k e=>by rw [show k=w.heap.size+2 from e];omega)))|(go_at_call 129;((with_reducible refine (HV.out _ X2 r2).mono ?_);rintro e w2 ⟨v,rfl,hj,f3,r3⟩;obtain ⟨v0,v1,v2,v3,v4,rfl,h1c⟩:=hj.form;have n2:=Blk.new w2 31 zj))|(refine wpList_store_row rfl 31 _ _ rfl w2.heap.size #[v0,v1,v2,v3,v4] rfl rfl 31 zj n2 ah rfl (dp h1c) ?_;have n3:=n2.setRow #[v0,v1,v2,v3,v4];have f4:Fr NoB w2 ((w2.alloc (.cells zj 31)).setRow w2.heap.size #[v0,v1,v2,v3,v4]):=((Fr.refl NoB w2).alloc _).setRow w2.heap.size _ (Or.inl (Nat.le_refl _));clear n2;generalize (w2.alloc (.cells zj 31)).setRow w2.heap.size #[v0,v1,v2,v3,v4]=W3 at n3 f4 ⊢;have R3:=r3.fr f4 (fun e=>e);have c3:=R3.cell;have G0:=f4.blk (f3.blk (f2.blk Gf (fun e=>by have e':w.heap.size=w.heap.size+2:=e;omega)) (fun e=>by have e':w.heap.size=w.heap.size+2:=e;omega)) (fun e=>e);have G1:=f4.blk (f3.blk (f2.blk RR (fun e=>by have e':w.heap.size+1=w.heap.size+2:=e;omega)) (fun e=>by have e':w.heap.size+1=w.heap.size+2:=e;omega)) (fun e=>e))|(go_at_call 130;((with_reducible refine (aA _ _ _ (by rfl)).mono ?_);rintro e w4 ⟨rfl,rfl⟩))|(refine gI rfl _ rfl w2.heap.size rfl n3 rfl ?_)|(refine wpList_store_row rfl 31 _ _ rfl w.heap.size #[v0,v1,v2,v3,v4] rfl rfl 31 zj G0 ah rfl (dp h1c) ?_;have f5:=Fr.eE W3 w.heap.size #[v0,v1,v2,v3,v4];have G2:=f5.blk G1 (fun e=>by have e':w.heap.size+1=w.heap.size:=e;omega);have G3:=G0.setRow #[v0,v1,v2,v3,v4];generalize W3.setRow w.heap.size #[v0,v1,v2,v3,v4]=W4 at f5 G2 G3 ⊢;have c5:W4.cell? ⟨w.heap.size+1,0,none⟩=some (.int .i64 0):=(G2.cell 0).trans rfl;have z5:=G2.frozen 0));(have hs1:w.heap.size+3<=w1.heap.size:=by have a:=r1.lt;have b:=f2.size;omega);have fin:=((f1.andThen (f2.trans f3) (fun j hj e=>by have e':j=w.heap.size+2:=e;omega)).trans f4).andThen f5 (fun j hj e=>by have e':j=w.heap.size:=e;omega);have fS:=(Fr.refl (Only (w.heap.size+1)) W4).only (o:=0) (.int .i64 0);refine leaves_cons (f:=78) (args := #[.pointer (some ⟨w.heap.size+1,0,none⟩)]) (by simp) (by simp [go_sem]) ?_;refine (qj ⟨w.heap.size+1,0,none⟩ _).mono ?_;rintro e' u' w5 ⟨rfl,rfl,rfl⟩;refine ⟨_,kV rfl _ _ w.heap.size (w.heap.size+1) _ _ _ _ _ _ rfl rfl ((G3.far (p:=⟨w.heap.size+1,0,none⟩) (by simp) _).alloc _) ((G2.aS 0 _).alloc _),_,rfl,?_,?_⟩
    ·have j4:=hj.fr f4 (fun _ _ e=>e) (Nat.le_refl _);have j5:=j4.fr f5 (fun g hg e=>by have e':g=w.heap.size:=e;omega) (Nat.le_refl _);have j6:=j5.fr fS (fun g hg e=>by have e':g=w.heap.size+1:=e;omega) (Nat.le_refl _);exact j6.fr ((Fr.refl NoB _).alloc _) (fun _ _ e=>e) (by omega)
    ·exact (fin.setCell_new (p:=⟨w.heap.size+1,0,none⟩) (by simp) _).alloc _
   ·(have IJ:gX s=.error 90:=by rw [ub,if_neg hr]);rw [IJ];(have hne:(r==[])=false:=by simpa using hr);clear hq hv ub IJ;go_enter_defers Tryz.func77,Tryz.ntmps77;go_wp2_with (first|(rw [HW.out];go_at_call 128;((with_reducible refine (kS _ s _ r1).mono ?_);rintro e w1 ⟨rfl,f2,r2⟩;have X2:=X1.fr f2 (fun k e=>by rw [show k=w.heap.size+2 from e];omega)))|(go_at_call 129;((with_reducible refine (HV.out _ X2 r2).mono ?_);rintro e w2 ⟨v,rfl,hj,f3,r3⟩;obtain ⟨v0,v1,v2,v3,v4,rfl,h1c⟩:=hj.form;have n2:=Blk.new w2 31 zj))|(refine wpList_store_row rfl 31 _ _ rfl w2.heap.size #[v0,v1,v2,v3,v4] rfl rfl 31 zj n2 ah rfl (dp h1c) ?_;have n3:=n2.setRow #[v0,v1,v2,v3,v4];have f4:Fr NoB w2 ((w2.alloc (.cells zj 31)).setRow w2.heap.size #[v0,v1,v2,v3,v4]):=((Fr.refl NoB w2).alloc _).setRow w2.heap.size _ (Or.inl (Nat.le_refl _));clear n2;generalize (w2.alloc (.cells zj 31)).setRow w2.heap.size #[v0,v1,v2,v3,v4]=W3 at n3 f4 ⊢;have R3:=r3.fr f4 (fun e=>e);have c3:=R3.cell;have G0:=f4.blk (f3.blk (f2.blk Gf (fun e=>by have e':w.heap.size=w.heap.size+2:=e;omega)) (fun e=>by have e':w.heap.size=w.heap.size+2:=e;omega)) (fun e=>e);have G1:=f4.blk (f3.blk (f2.blk RR (fun e=>by have e':w.heap.size+1=w.heap.size+2:=e;omega)) (fun e=>by have e':w.heap.size+1=w.heap.size+2:=e;omega)) (fun e=>e))|(go_at_call 130;((with_reducible refine (aE _ _ _ (by first|rfl|(simp;done)|simpa using hr)).mono ?_);rintro e w4 ⟨rfl,rfl⟩)));have fin:=(f1.andThen (f2.trans f3) (fun j hj e=>by have e':j=w.heap.size+2:=e;omega)).trans f4;refine leaves_cons (f:=78) (args := #[.pointer (some ⟨w.heap.size+1,0,none⟩)]) (by simp) (by simp [go_sem]) ?_;refine (gZ ⟨w.heap.size+1,0,none⟩ 0 90 [] W3 ((G1.cell 0).trans rfl) (G1.frozen 0) G1.lt).mono ?_;rintro e' u' w5 ⟨rfl,rfl,rfl⟩;exact ⟨_,kV rfl _ _ w.heap.size (w.heap.size+1) _ _ _ _ _ _ rfl rfl ((G0.alloc _).far (p:=⟨w.heap.size+1,0,none⟩) (by simp) _) ((G1.alloc _).aS 0 _),rfl,(fin.alloc _).setCell_new (p:=⟨w.heap.size+1,0,none⟩) (by simp) _⟩
theorem tU {B:Nat} (s:Bs) (w:World) (hx:Cx B w) (hs:s.length<=35184372088832) :
  Calls Tryz.prog 132 #[.string ⟨s.toArray⟩] w fun e w'=>e=.returned (.bool (!Lib.validD s))/\Fr NoB w w':=by
 cases hv:Lib.validD s
 ·go_enter Tryz.func132,Tryz.ntmps132;go_wp2_with (go_at_call 133;((with_reducible refine (xq s _ hx hs hv).mono ?_);rintro e w1 ⟨rfl,f1⟩));go_ret;exact ⟨rfl,f1⟩
 ·go_enter Tryz.func132,Tryz.ntmps132;go_wp2_with (go_at_call 133;((with_reducible refine (rQ s _ hx hs hv).mono ?_);rintro e w1 ⟨rfl,f1⟩));go_ret;exact ⟨rfl,f1⟩
def XZ (ks:List Bs) (r:Int):Prop:=(r = -1/\ks.all Lib.validD=true)\/(0<=r/\ks.all Lib.validD=false)
theorem uG {B:Nat} (S:Nat->Prop) (ks:List Bs) (kv:Value) (w:World) (hx:Cx B w) (hS:∀ g,S g->g<w.heap.size) (h:aT S w kv ks.length (ks.map sV)) (hl:ks.length<=big) (hk:∀ s∈ks,s.length<=35184372088832) :
  Calls Tryz.prog 180 #[kv,.func (.func 132) #[] #[]] w fun e w'=>∃ r,e=.returned (.int .i64 r)/\XZ ks r/\Fr NoB w w':=by
 unfold big at hl;rcases h with ⟨h0,a,c,rfl⟩|⟨g,o,c,rfl,hg,hc⟩
 ·have gH:ks=[]:=List.eq_nil_of_length_eq_zero h0;subst gH;go_enter Tryz.func180,Tryz.ntmps180;go_wp2;go_loopw [8] (fun v8 wr=>v8=.int .i64 0/\Fr NoB w wr) (fun _ _=>0)
  case atStart=>exact ⟨rfl,Fr.refl _ _⟩
  case round=>
   obtain ⟨rfl,hf⟩:=hrel;go_wp2;go_ret;exact ⟨-1,rfl,Or.inl ⟨rfl,rfl⟩,hf⟩
 ·have HC:=hd' hc;have HK:=hd' hk;clear hc hk;go_enter Tryz.func180,Tryz.ntmps180;go_wp2;go_loopw [8] (fun v8 wr=>∃ k:Nat,k<=ks.length/\v8=.int .i64 k/\Fr NoB w wr/\Hid ((ks.take k).all Lib.validD=true)) (fun v8 _=>ks.length - (intOf v8).toNat)
  case atStart=>exact ⟨0,Nat.zero_le _,rfl,Fr.refl _ _,hd' rfl⟩
  case round=>
   obtain ⟨k,hk,rfl,hf,HA⟩:=hrel;by_cases hlt:k<ks.length
   ·have yz:wr.cell? ⟨g,o+k,none⟩=some (sV ks[k]):=(hf.cell (p:=⟨g,o+k,none⟩) (hS g hg) (fun e=>e)).trans (HC.out k _ (by rw [List.getElem?_map,List.getElem?_eq_getElem hlt];rfl));have jU:=HK.out ks[k] (List.getElem_mem hlt);(have lK:ks.take (k+1)=ks.take k++[ks[k]]:=by rw [List.take_add_one,List.getElem?_eq_getElem hlt];rfl);have hme:ks[k]∈ks:=List.getElem_mem hlt;generalize ks[k]=s at yz jU lK hme;have HT:=hd' lK;have HM:=hd' hme;clear lK hme;cases hv:Lib.validD s
    ·have HV:=hd' hv;clear hv;go_wp2_with (go_at_call 132;((with_reducible refine (tU s _ (hx.eG hf) jU).mono ?_);rintro e w1 ⟨rfl,f1⟩;rw [HV.out]));go_ret;refine ⟨k,rfl,Or.inr ⟨by omega,?_⟩,hf.trans f1⟩;cases ha:ks.all Lib.validD
     ·rfl
     ·have:=List.all_eq_true.1 ha s HM.out;rw [HV.out] at this;cases this
    ·have HV:=hd' hv;clear hv;go_wp2_with (go_at_call 132;((with_reducible refine (tU s _ (hx.eG hf) jU).mono ?_);rintro e w1 ⟨rfl,f1⟩;rw [HV.out]));go_roundw
     case rel=>exact ⟨k+1,by omega,by simp,hf.trans f1,hd' (by rw [HT.out,List.all_append,HA.out];simp [HV.out])⟩
     case measure=>simp [intOf];omega
   ·obtain rfl:k=ks.length:=by omega
    go_wp2;go_ret;exact ⟨-1,rfl,Or.inl ⟨rfl,by have:=HA.out;simpa using this⟩,hf⟩
theorem pF {B:Nat} (S:Nat->Prop) (ks:List Bs) (kv:Value) (w:World) (hx:Cx B w) (hS:∀ g,S g->g<w.heap.size) (h:aT S w kv ks.length (ks.map sV)) (hl:ks.length<=big) (hk:∀ s∈ks,s.length<=35184372088832) :
  Calls Tryz.prog 131 #[kv,.func (.func 132) #[] #[]] w fun e w'=>e=.returned (.bool (!ks.all Lib.validD))/\Fr NoB w w':=by
 have hI:=hd' (uG S ks kv w hx hS h hl hk);clear h hl hk hS;go_enter Tryz.func131,Tryz.ntmps131;go_wp2_with (go_at_call 180;((with_reducible refine hI.out.mono ?_);rintro e w1 ⟨r,rfl,hr,f1⟩));go_ret;refine ⟨?_,f1⟩;rcases hr with ⟨rfl,ha⟩|⟨h0,ha⟩
 ·rw [ha];rfl
 ·rw [ha];simp [h0]
end Go.Proofs.YtbifjamddbpcjaaGreatDoor
