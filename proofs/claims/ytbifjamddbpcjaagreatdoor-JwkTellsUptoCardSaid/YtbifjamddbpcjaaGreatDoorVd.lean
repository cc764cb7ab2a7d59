/- JSON: single: are all texts unlike? -/
import Derived.Test.YtbifjamddbpcjaaGreatDoorJx
import Derived.Test.YtbifjamddbpcjaaGreatDoorShelfB
import Derived.Sort.OwnSorted
import Derived.Lib.RowBridge
import Derived.Deep.OwnRows
import Derived.Shelf.SlSortCmp.NoneTotal
namespace Go.Proofs.YtbifjamddbpcjaaGreatDoor
set_option maxRecDepth 100000
set_option maxHeartbeats 25600000
open Go.RowKit Go.Shelf Go.Sort
theorem Cd (a:Option Addr) (len cap:Nat) (w:World) :
  Calls Tryz.prog 183 #[.slice a len cap] w fun e w'=>e=.returned (.func (.func 218) #[] #[.pointer (some ⟨w.heap.size,0,none⟩)])/\w.alloc (.cells #[.slice a len cap] 29)=w':=
 (callsIn_wide (n:=6)).1 ((Fy Fence.wide 6 trivial rfl a len cap w).mono fun _ _ ⟨h1,h2⟩=>⟨h1,h2.symm⟩)
theorem zv (sb n₀:Nat) (sv:Value) (zs:List Bs) (hlen:zs.length<=maxLen) (dM:zs.length*16<=140737488351232) (w:World) (Rl:sb<w.heap.size) (mY:n₀<=w.heap.size)
  (hc0:w.cell? ⟨sb,0,none⟩=some sv) (hL:Nz n₀ w sv zs) :
  Calls Tryz.prog 216 #[.func (.func 218) #[] #[.pointer (some ⟨sb,0,none⟩)]] w fun e W'=>∃ v,e=.returned v/\W'.ownsRow w.heap.size 9 1 v zs.length (zs.map sV)/\Below w.heap.size w W':=
 (callsIn_wide (n:=6)).1 (Ca Fence.wide 6 trivial trivial trivial rfl (by omega) sb n₀ sv zs hlen dM w Rl mY hc0 hL)
theorem JO (blk off cap:Nat) (ss:List Bs) (w:World) (hH:Holds encStr w blk off ss.toArray) (hblk:blk<w.heap.size) (hsz:ss.length<4611686018427387904) :
  Calls Tryz.prog 217 #[.slice (some ⟨blk,off,none⟩) ss.length cap] w fun e w'=>e=.returned (.tuple #[])/\∃ n os,w'=grow (putRow encStr (Sort.ahead w n) blk off (ss.mergeSort fun x y=>decide (x<=y)).toArray) os:=
 AnyM.slices_Sort_string Tryz.sortS blk off cap ss w hH hblk hsz
theorem FB (p:Option Addr) (cap:Nat) (w:World):Calls Tryz.prog 217 #[.slice p 0 cap] w fun e w'=>e=.returned (.tuple #[])/\w=w':=
 (AnyM.slices_Sort_string_none Tryz.sortS p cap w).mono fun _ _ ⟨h1,h2⟩=>⟨h1,h2.symm⟩
def nf (zs:List Bs):List Bs:=zs.mergeSort fun x y=>decide (x<=y)
theorem Ce (sb n₀:Nat) (sv:Value) (zs:List Bs) (hlen:zs.length<=maxLen) (dM:zs.length*16<=140737488351232) (w:World) (Rl:sb<w.heap.size) (mY:n₀<=w.heap.size)
  (hc0:w.cell? ⟨sb,0,none⟩=some sv) (hL:Nz n₀ w sv zs) :
  Calls Tryz.prog 182 #[.func (.func 218) #[] #[.pointer (some ⟨sb,0,none⟩)]] w fun e W'=>∃ v,e=.returned v/\W'.ownsRow w.heap.size 9 1 v zs.length ((nf zs).map sV)/\Fr NoB w W':=by
 have HC:=hd' (zv sb n₀ sv zs hlen dM w Rl mY hc0 hL);clear hc0 hL;go_enter Tryz.func182,Tryz.ntmps182;go_wp2_with (go_at_call 216;((with_reducible refine HC.out.mono ?_);rintro e W ⟨v,rfl,dX,hb⟩));have Vz:=dX;rcases dX.2 with ⟨rfl,hz⟩|⟨gb,cap,cur,rfl,hbase,QO,r1,r2,r3,r4⟩
 ·have NM:zs=[]:=List.eq_nil_of_length_eq_zero hz;subst NM;refine (FB none 0 W).mono ?_;rintro e w' ⟨rfl,rfl⟩;go_wp2;go_ret;exact ⟨.slice none 0 0,rfl,by simpa [nf] using Vz,Fr.iw hb⟩
 ·have hH:Holds encStr W gb 0 zs.toArray:=holds_of_block QO (by simpa using r4);have Fl:gb<W.heap.size:=lt_of_block QO;refine (JO gb 0 cap zs W hH Fl (by unfold maxLen at hlen;omega)).mono ?_;rintro e w' ⟨rfl,nn,os,rfl⟩;have hbs:=hb.grown (grownBy_sorted (n:=nn) (os:=os) (nf zs).toArray) hb.size (fun j hj=>by cases hj;exact hbase);go_wp2;go_ret;exact ⟨_,rfl,ownsRow_sorted (by simp) hbase QO r1 r2 r3,Fr.iw hbs⟩
theorem zw (zs:List Bs) (j:Nat) (h:j+1<zs.length):Lib.keeps zs.toArray (j+1)=decide (zs[j+1]≠zs[j]):=by
 unfold Lib.keeps;have h1:zs.toArray[j+1]! = zs[j+1]:=by rw [getElem!_pos _ _ (by simpa using h)];simp
 have h2:zs.toArray[j+1 - 1]! = zs[j]:=by rw [Nat.add_sub_cancel,getElem!_pos _ _ (by simp;omega)];simp
 rw [h1,h2];simp
theorem zz (zs:List Bs):(Lib.compact zs).length=zs.length ↔ ∀ j (h:j+1<zs.length),zs[j+1]≠zs[j]:=by
 unfold Lib.compact Lib.compactUpTo;rw [List.length_map];constructor
 ·intro he j h hn;have hl:((List.range zs.length).filter (Lib.keeps zs.toArray)).length=(List.range zs.length).length:=by rw [he];simp
  have NP:=List.length_filter_eq_length_iff.1 hl (j+1) (List.mem_range.2 h);rw [zw zs j h] at NP;simp [hn] at NP
 ·intro hne;have:(List.range zs.length).filter (Lib.keeps zs.toArray)=List.range zs.length:=List.filter_eq_self.2 (fun j hj=>by
   cases j with
   | zero=>exact Lib.keeps_lt_one _ 0 (by omega)
   | succ j=>rw [zw zs j (List.mem_range.1 hj)];simpa using hne j (List.mem_range.1 hj))
  rw [this];simp
theorem nu (zs:List Bs):(nf zs).Perm zs:=List.mergeSort_perm _ _
theorem xB (zs:List Bs):(nf zs).Pairwise (fun x y=>x<=y):=by
 have:=List.pairwise_mergeSort (le:=fun x y:Bs=>decide (x<=y)) (fun a b c h1 h2=>by simp only [decide_eq_true_eq] at *;exact List.le_trans h1 h2) (fun a b=>by simp only [Bool.or_eq_true,decide_eq_true_eq];exact List.le_total a b) zs;exact this.imp (fun h=>by simpa using h)
theorem Cf (zs:List Bs):(Lib.compact (nf zs)).length=zs.length ↔ zs.Nodup:=by
 rw [<- (nu zs).nodup_iff];have hl:(nf zs).length=zs.length:=(nu zs).length_eq;rw [<- hl,zz];have hs:=xB zs;generalize nf zs=l at hs;constructor
 ·intro hne;induction l with
  | nil=>exact List.nodup_nil
  | cons a r ih=>
   rw [List.pairwise_cons] at hs;rw [List.nodup_cons];refine ⟨fun ha => ?_,ih hs.2 (fun j h=>hne (j+1) (by simp;omega))⟩;cases r with
   | nil=>simp at ha
   | cons b q=>
    have h01:=hne 0 (by simp);have hab:=hs.1 b (by simp);have YH:b<=a:=by
     rcases List.mem_cons.1 ha with rfl|hq
     ·exact List.le_refl _
     ·exact (List.pairwise_cons.1 hs.2).1 a hq
    exact h01 (List.le_antisymm YH hab)
 ·intro hn j h he;exact List.pairwise_iff_getElem.1 hn j (j+1) (by omega) h (by omega) he.symm
theorem Fr.put {S:Nat->Prop} {a w:World} (h:Fr S a w) (g n:Nat) (d:Array Bs) (hg:a.heap.size<=g):Fr S a (putRow encStr (Sort.ahead w n) g 0 d):=
 ⟨h.os,h.tape,h.output,by simpa [putRow,mapBlock,Sort.ahead] using h.size,fun k hk hn=>by
  have hne:g≠k:=by omega
  have e:(putRow encStr (Sort.ahead w n) g 0 d).heap[k]?=w.heap[k]?:=by simp [putRow,mapBlock,Sort.ahead,Array.getElem?_modify,hne]
  exact e.trans (h.block k hk hn)⟩
theorem aT.txs {S:Nat->Prop} {w:World} {kv:Value} {ks:List Bs} (h:aT S w kv ks.length (ks.map sV)) (hS:∀ g,S g->g<w.heap.size):Nz w.heap.size w kv ks:=by
 rcases h with ⟨h0,a,c,rfl⟩|⟨g,o,c,rfl,hg,hc⟩
 ·exact Or.inl ⟨a,c,rfl,List.eq_nil_of_length_eq_zero h0⟩
 ·exact Or.inr ⟨g,o,c,rfl,hS g hg,fun j hj=>hc j _ (by simp [hj])⟩
theorem Cg (S:Nat->Prop) (ks:List Bs) (kv:Value) (w:World) (hS:∀ g,S g->g<w.heap.size) (h:aT S w kv ks.length (ks.map sV)) (hl:ks.length*16<=140737488351232) :
  Calls Tryz.prog 134 #[kv] w fun e w'=>e=.returned (.bool (decide ks.Nodup))/\Fr NoB w w':=by
 have hT:=h.txs hS;obtain ⟨a,n,c,rfl,hn⟩:∃ a n c,kv=.slice a n c/\n=ks.length:=by
  rcases h with ⟨h0,a,c,rfl⟩|⟨g,o,c,rfl,hg,hc⟩
  ·exact ⟨a,0,c,rfl,h0.symm⟩
  ·exact ⟨_,_,c,rfl,rfl⟩
 subst hn;clear h hS;have f1:Fr NoB w (w.alloc (.cells #[.slice a ks.length c] 29)):=(Fr.refl _ _).alloc _;have b1:=Blk.new w 29 #[.slice a ks.length c];have HS:=hd' (Ce w.heap.size w.heap.size _ ks (by unfold maxLen;omega) hl _ (by simp) (by simp) ((b1.cell 0).trans rfl) (hT.below (f1.toBelow)));clear hT;have hlen:=Cf ks;have Ix:(nf ks).length=ks.length:=(nu ks).length_eq;generalize nf ks=zs at HS hlen Ix;go_enter Tryz.func134,Tryz.ntmps134;go_wp2_with (first|(go_at_call 183;((with_reducible refine (Cd _ _ _ _).mono ?_);rintro e w1 ⟨rfl,rfl⟩))|(go_at_call 182;((with_reducible refine HS.out.mono ?_);rintro e W ⟨v,rfl,dX,fW⟩)));rcases dX.2 with ⟨rfl,hz⟩|⟨gb,cap,cur,rfl,hbase,QO,r1,r2,r3,r4⟩
 ·have gH:ks=[]:=List.eq_nil_of_length_eq_zero hz;subst gH;refine (Tryz.slices_Compact_string_empty none 0 W).mono ?_;rintro e w' ⟨rfl,rfl⟩;go_wp2;go_ret;exact ⟨by simp,f1.trans fW⟩
 ·have hH:Holds encStr W gb 0 zs.toArray:=holds_of_block QO (by rw [Ix];simpa using r4);have iD:w.heap.size+1<=gb:=by simpa using hbase
  have hC:=Tryz.slices_Compact_string gb 0 cap zs W hH (by omega) (by omega);rw [Ix] at hC;refine hC.mono ?_;rintro e w' ⟨rfl,q,rfl⟩;have fin:=(f1.trans fW).put gb q (Lib.compact zs++List.replicate (ks.length - (Lib.compact zs).length) []).toArray (by omega);have hle:(Lib.compact zs).length<=zs.length:=Lib.compact_length_le zs;generalize (Lib.compact zs).length=cl at hlen hle fin ⊢;clear hC;have MG:((cl:Int)==(ks.length:Int))=decide ks.Nodup:=by
   rw [Bool.eq_iff_iff];simp only [decide_eq_true_eq,beq_iff_eq];rw [<- hlen];omega
  go_wp2;go_ret;exact ⟨rfl,fin⟩
open Go.RowKit
mutual
def Jl:Jv->Prop
 | .mk _ _ t l ks=>t.length<=35184372088832/\ks.length<=8796093021952/\(∀ s∈ks,s.length<=35184372088832)/\sr l
def sr:List Jv->Prop
 | []=>True
 | j::r=>Jl j/\sr r
end
def D0 (q:Nat) (w:World) (e:Ending) (w':World):Prop:=(q=0/\e=.returned (.tuple #[])/\Fr NoB w w')\/(q≠0/\e=Wr q/\Fr NoB w w')
def CK (n:Nat) (j:Jv):Prop:=∀ {B:Nat} (S:Nat->Prop) (v:Value) (w:World),Cx B w->(∀ g,S g->g<w.heap.size)->aG S w j v->Jl j->Calls Tryz.prog 79 #[v,.int .i64 n] w (D0 (aw n j) w)
theorem sr.get:∀ (l:List Jv),sr l->∀ x∈l,Jl x
 | [],_,x,hx=>by simp at hx
 | j::r,h,x,hx=>by
  simp only [sr] at h;rcases List.mem_cons.1 hx with rfl|hx
  ·exact h.1
  ·exact sr.get r h.2 x hx
theorem xC (n:Nat) (l:List Jv) (m:Nat) (h:m<l.length):bI n (l.drop m)=if aw n l[m]=0 then bI n (l.drop (m+1)) else aw n l[m]:=by
 rw [List.drop_eq_getElem_cons h,bI]
theorem Ch {B:Nat} (S:Nat->Prop) (n:Nat) (hn:n<=32) (k i:Int) (t:Bs) (l:List Jv) (ks:List Bs) (lv kv:Value) (w:World) (hx:Cx B w) (hS:∀ g,S g->g<w.heap.size)
  (_hk:IntOk k) (_hi:IntOk i) (qE:aT S w kv ks.length (ks.map sV)) (hlv:∃ cs,aq S w l cs/\aT S w lv l.length cs) (hl:l.length<=big)
  (eK:t.length<=35184372088832/\ks.length<=8796093021952/\(∀ s∈ks,s.length<=35184372088832)) (IY:sr l) (tX:n+1<=32->∀ x∈l,CK (n+1) x) :
  Calls Tryz.prog 79 #[jV k i t lv kv,.int .i64 n] w (D0 (aw n (.mk k i t l ks)) w):=by
 have f0:Fr NoB w (w.alloc (.cells #[.int .i64 k,.int .i64 i,.string ⟨t.toArray⟩,lv,kv] 31)):=(Fr.refl _ _).alloc _;have g0:=Blk.new w 31 #[.int .i64 k,.int .i64 i,.string ⟨t.toArray⟩,lv,kv];obtain ⟨ka,kc,rfl⟩:∃ a c,kv=.slice a ks.length c:=by
  rcases qE with ⟨h0,a,c,rfl⟩|⟨g,o,c,rfl,hg,hc⟩
  ·exact ⟨a,c,by rw [h0]⟩
  ·exact ⟨_,c,rfl⟩
 obtain ⟨cs,hcs,dd⟩:=hlv;obtain ⟨la,lc,rfl⟩:∃ a c,lv=.slice a l.length c:=by
  rcases dd with ⟨h0,a,c,rfl⟩|⟨g,o,c,rfl,hg,hc⟩
  ·exact ⟨a,c,by rw [h0]⟩
  ·exact ⟨_,c,rfl⟩
 have jU:=eK.2.1;have BB:=hd' tX;have Hkv:=hd' qE;have Yk:=hd' (And.intro hcs dd);have IE:=hd' eK;clear tX qE hcs dd eK;unfold IntOk at _hk _hi;unfold big at hl;have hq:aw n (.mk k i t l ks)=if cH k && !(decide ((n:Int)<32)) then 91 else if aW k i t l.length ks then bI (n+1) l else 93:=by rw [aw]
 generalize aw n (.mk k i t l ks)=q at hq;have HQ:=hd' hq;clear hq;generalize hW:w.alloc (.cells #[.int .i64 k,.int .i64 i,.string ⟨t.toArray⟩,.slice la l.length lc,.slice ka ks.length kc] 31)=W at f0 g0;have c0:W.cell? ⟨w.heap.size,0,none⟩=some (.int .i64 k):=(g0.cell 0).trans rfl;have c1:W.cell? ⟨w.heap.size,1,none⟩=some (.int .i64 i):=(g0.cell 1).trans rfl;have c2:W.cell? ⟨w.heap.size,2,none⟩=some (.string ⟨t.toArray⟩):=(g0.cell 2).trans rfl;have c3:W.cell? ⟨w.heap.size,3,none⟩=some (.slice la l.length lc):=(g0.cell 3).trans rfl;have c4:W.cell? ⟨w.heap.size,4,none⟩=some (.slice ka ks.length kc):=(g0.cell 4).trans rfl;go_enter Tryz.func79,Tryz.ntmps79;go_upto_region 1 with fail;clear hW;go_cut [4] (fun v4 wx=>v4=.bool (cH k)/\W=wx)
 case first=>
  cases h5:(k==5)
  ·cases h6:(k==6)
   ·go_wp2_with fail;go_meet;exact ⟨by simp [cH,h5,h6],rfl⟩
   ·go_wp2_with fail;go_meet;exact ⟨by simp [cH,h5,h6],rfl⟩
  ·go_wp2_with fail;go_meet;exact ⟨by simp [cH,h5],rfl⟩
 case rest=>
  obtain ⟨rfl,rfl⟩:=hcut;cases hA:(cH k && !(decide ((n:Int)<32))) with
  | true=>
   have e:q=91:=by rw [HQ.out,hA];rfl
   obtain ⟨a1,a2⟩:cH k=true/\¬ ((n:Int)<32):=by simpa using hA
   clear hA;go_wp2_with (go_at_call 130;first|((with_reducible refine (aA _ _ _ (by first|rfl|(simp;done)|(simp;omega))).mono ?_);rintro e w9 ⟨rfl,rfl⟩)|((with_reducible refine (aE _ _ _ (by first|rfl|(simp;done)|(simp;omega))).mono ?_);rintro e w9 ⟨rfl,rfl⟩));exact ⟨rfl,Or.inr ⟨by omega,rfl,f0⟩⟩
  | false=>
   have h93:aW k i t l.length ks=false->q=93:=fun hf=>by rw [HQ.out,hA,hf];rfl
   have NQ:=hd' h93;have HA:=hd' hA;clear h93 hA;go_upto_region 2 with fail;go_cut [4] (fun v4 wx=>v4=.bool (cH k)/\W=wx)
   case first=>
    have hA:=HA.out;cases hN:cH k with
    | false=>
     clear hA;go_wp2_with (go_at_call 130;first|((with_reducible refine (aA _ _ _ (by first|rfl|(simp;done)|(simp;omega))).mono ?_);rintro e w9 ⟨rfl,rfl⟩)|((with_reducible refine (aE _ _ _ (by first|rfl|(simp;done)|(simp;omega))).mono ?_);rintro e w9 ⟨rfl,rfl⟩));go_meet;exact ⟨by first|rfl|rw [hN],rfl⟩
    | true=>
     (have hlt:(n:Int)<32:=by rw [hN] at hA;simpa using hA);clear hA;go_wp2_with (go_at_call 130;first|((with_reducible refine (aA _ _ _ (by first|rfl|(simp;done)|(simp;omega))).mono ?_);rintro e w9 ⟨rfl,rfl⟩)|((with_reducible refine (aE _ _ _ (by first|rfl|(simp;done)|(simp;omega))).mono ?_);rintro e w9 ⟨rfl,rfl⟩));go_meet;exact ⟨by first|rfl|rw [hN],rfl⟩
   case rest=>
    obtain ⟨rfl,rfl⟩:=hcut;go_upto_region 3 with fail;go_cut [4] (fun v4 wx=>v4=.bool (cH k)/\(0<=k/\k<7)/\W=wx)
    case first=>
     by_cases a1:0<=k
     ·by_cases a2:k<7
      ·go_wp2_with (go_at_call 130;first|((with_reducible refine (aA _ _ _ (by first|rfl|(simp;done)|(simp;omega))).mono ?_);rintro e w9 ⟨rfl,rfl⟩)|((with_reducible refine (aE _ _ _ (by first|rfl|(simp;done)|(simp;omega))).mono ?_);rintro e w9 ⟨rfl,rfl⟩));go_meet;exact ⟨rfl,⟨a1,a2⟩,rfl⟩
      ·have e:q=93:=NQ.out (by simp [aW,a2]);go_wp2_with (go_at_call 130;first|((with_reducible refine (aA _ _ _ (by first|rfl|(simp;done)|(simp;omega))).mono ?_);rintro e w9 ⟨rfl,rfl⟩)|((with_reducible refine (aE _ _ _ (by first|rfl|(simp;done)|(simp;omega))).mono ?_);rintro e w9 ⟨rfl,rfl⟩));exact ⟨rfl,Or.inr ⟨by omega,rfl,f0⟩⟩
     ·have e:q=93:=NQ.out (by simp [aW,a1]);go_wp2_with (go_at_call 130;first|((with_reducible refine (aA _ _ _ (by first|rfl|(simp;done)|(simp;omega))).mono ?_);rintro e w9 ⟨rfl,rfl⟩)|((with_reducible refine (aE _ _ _ (by first|rfl|(simp;done)|(simp;omega))).mono ?_);rintro e w9 ⟨rfl,rfl⟩));exact ⟨rfl,Or.inr ⟨by omega,rfl,f0⟩⟩
    case rest=>
     obtain ⟨rfl,⟨mc,hk7⟩,rfl⟩:=hcut;go_upto_region 4 with fail;go_cut [4] (fun _ wx=>Hid ((cH k || decide ((l.length:Int)=0))=true)/\W=wx)
     case first=>
      cases hN:cH k with
      | true=>
       go_wp2_with (go_at_call 130;first|((with_reducible refine (aA _ _ _ (by first|rfl|(simp;done)|(simp;omega))).mono ?_);rintro e w9 ⟨rfl,rfl⟩)|((with_reducible refine (aE _ _ _ (by first|rfl|(simp;done)|(simp;omega))).mono ?_);rintro e w9 ⟨rfl,rfl⟩));go_meet;exact ⟨hd' (by rw [hN];rfl),rfl⟩
      | false=>
       by_cases a1:(l.length:Int)=0
       ·(have b1:((l.length:Int)==0)=true:=by simpa using a1);clear a1;go_wp2_with (go_at_call 130;first|((with_reducible refine (aA _ _ _ (by first|rfl|(simp;done)|(simp;omega))).mono ?_);rintro e w9 ⟨rfl,rfl⟩)|((with_reducible refine (aE _ _ _ (by first|rfl|(simp;done)|(simp;omega))).mono ?_);rintro e w9 ⟨rfl,rfl⟩));go_meet;exact ⟨hd' (by rw [decide_eq_true (beq_iff_eq.1 b1),Bool.or_true]),rfl⟩
       ·have e:q=93:=NQ.out (by simp [aW,hN];intro _ _ h0;exact absurd (by simpa using h0) a1);(have b1:((l.length:Int)==0)=false:=by simpa using a1);clear a1;go_wp2_with (go_at_call 130;first|((with_reducible refine (aA _ _ _ (by first|rfl|(simp;done)|(simp;omega))).mono ?_);rintro e w9 ⟨rfl,rfl⟩)|((with_reducible refine (aE _ _ _ (by first|rfl|(simp;done)|(simp;omega))).mono ?_);rintro e w9 ⟨rfl,rfl⟩));exact ⟨rfl,Or.inr ⟨by omega,rfl,f0⟩⟩
     case rest=>
      obtain ⟨HB,rfl⟩:=hcut;go_upto_region 5 with fail;go_cut [] (fun wx=>Hid (fj k l.length ks=true)/\W=wx)
      case first=>
       have P4:fj k l.length ks=false->q=93:=fun h=>NQ.out (by simp [aW,h]);have NU:=hd' P4;clear P4;cases h6:(k==6) with
       | true=>
        cases b1:((ks.length:Int)==(l.length:Int)) with
        | true=>
         (have a1:(ks.length:Int)=(l.length:Int):=by simpa using b1);have HO:=hd' (show fj k l.length ks=true by simp [fj,h6,a1]);clear a1;go_wp2_with (go_at_call 130;first|((with_reducible refine (aA _ _ _ (by first|rfl|(simp;done)|(simp;omega))).mono ?_);rintro e w9 ⟨rfl,rfl⟩)|((with_reducible refine (aE _ _ _ (by first|rfl|(simp;done)|(simp;omega))).mono ?_);rintro e w9 ⟨rfl,rfl⟩));go_meet;exact ⟨HO,rfl⟩
        | false=>
         (have a1:¬ (ks.length:Int)=(l.length:Int):=by simpa using b1);(have h6':(k != 6)=false:=by simpa using h6);have e:q=93:=NU.out (by simp [fj,h6,h6',a1]);clear a1;cases b2:((ks.length:Int)==0) with
         | true=>
          go_wp2_with (go_at_call 130;first|((with_reducible refine (aA _ _ _ (by first|rfl|(simp;done)|(simp;omega))).mono ?_);rintro e w9 ⟨rfl,rfl⟩)|((with_reducible refine (aE _ _ _ (by first|rfl|(simp;done)|(simp;omega))).mono ?_);rintro e w9 ⟨rfl,rfl⟩));exact ⟨rfl,Or.inr ⟨by omega,rfl,f0⟩⟩
         | false=>
          go_wp2_with (go_at_call 130;first|((with_reducible refine (aA _ _ _ (by first|rfl|(simp;done)|(simp;omega))).mono ?_);rintro e w9 ⟨rfl,rfl⟩)|((with_reducible refine (aE _ _ _ (by first|rfl|(simp;done)|(simp;omega))).mono ?_);rintro e w9 ⟨rfl,rfl⟩));exact ⟨rfl,Or.inr ⟨by omega,rfl,f0⟩⟩
       | false=>
        (have h6':(k != 6)=true:=by simpa using h6);cases b2:((ks.length:Int)==0) with
        | true=>
         (have a2:(ks.length:Int)=0:=by simpa using b2);have HO:=hd' (show fj k l.length ks=true by simp [fj,h6',a2]);clear a2;go_wp2_with (go_at_call 130;first|((with_reducible refine (aA _ _ _ (by first|rfl|(simp;done)|(simp;omega))).mono ?_);rintro e w9 ⟨rfl,rfl⟩)|((with_reducible refine (aE _ _ _ (by first|rfl|(simp;done)|(simp;omega))).mono ?_);rintro e w9 ⟨rfl,rfl⟩));go_meet;exact ⟨HO,rfl⟩
        | false=>
         (have a2:¬ (ks.length:Int)=0:=by simpa using b2);have e:q=93:=NU.out (by unfold fj;rw [h6,decide_eq_false a2];rfl);clear a2;go_wp2_with (go_at_call 130;first|((with_reducible refine (aA _ _ _ (by first|rfl|(simp;done)|(simp;omega))).mono ?_);rintro e w9 ⟨rfl,rfl⟩)|((with_reducible refine (aE _ _ _ (by first|rfl|(simp;done)|(simp;omega))).mono ?_);rintro e w9 ⟨rfl,rfl⟩));exact ⟨rfl,Or.inr ⟨by omega,rfl,f0⟩⟩
      case rest=>
       obtain ⟨HK,rfl⟩:=hcut;have X0:=hx.eG f0;have Hka:Hid (aT S W (.slice ka ks.length kc) ks.length (ks.map sV)):=hd' (Hkv.out.fr (fun g hg=>f0.block g (hS g hg) (fun e=>e)));have Up:∀ g,S g->g<W.heap.size:=fun g hg=>Nat.lt_of_lt_of_le (hS g hg) f0.size;(have ju:ks.length<=big:=by unfold big;omega);go_upto_region 6 with fail;go_cut [] (fun wx=>Hid ((ks.all Lib.validD&&decide ks.Nodup)=true)/\Fr NoB W wx)
       case first=>
        have D1:=pF S ks _ W X0 Up Hka.out ju IE.out.2.2;cases hv:ks.all Lib.validD with
        | false=>
         have e:q=93:=NQ.out (by simp [aW,hv]);rw [hv] at D1;have YI:=hd' D1;clear D1 hv Up;go_wp2_with (first|(go_at_call 131;((with_reducible refine YI.out.mono ?_);rintro e w1 ⟨rfl,f1⟩))|(go_at_call 130;first|((with_reducible refine (aA _ _ _ (by first|rfl|(simp;done)|(simp;omega))).mono ?_);rintro e w9 ⟨rfl,rfl⟩)|((with_reducible refine (aE _ _ _ (by first|rfl|(simp;done)|(simp;omega))).mono ?_);rintro e w9 ⟨rfl,rfl⟩)));exact ⟨rfl,Or.inr ⟨by omega,rfl,f0.trans f1⟩⟩
        | true=>
         rw [hv] at D1;have YI:=hd' D1;have HSI:Hid (∀ w',Fr NoB W w'->Calls Tryz.prog 134 #[.slice ka ks.length kc] w' fun e w''=>e=.returned (.bool (decide ks.Nodup))/\Fr NoB w' w''):=hd' (fun w' f=>Cg S ks _ w' (fun g hg=>Nat.lt_of_lt_of_le (Up g hg) f.size) (Hka.out.fr (fun g hg=>f.block g (Up g hg) (fun e=>e))) (by omega));clear D1 Up;cases hd:decide ks.Nodup with
         | false=>
          have e:q=93:=NQ.out (by rw [decide_eq_false_iff_not] at hd;simp [aW,hd]);have HD:=hd' hd;clear hd hv;go_wp2_with (first|(go_at_call 131;((with_reducible refine YI.out.mono ?_);rintro e w1 ⟨rfl,f1⟩;have d4:=((f1.blk g0 (fun e=>e)).cell 4).trans (show _=some (Value.slice ka ks.length kc) from rfl)))|(go_at_call 134;((with_reducible refine (HSI.out _ f1).mono ?_);rintro e w2 ⟨rfl,f2⟩;rw [HD.out]))|(go_at_call 130;first|((with_reducible refine (aA _ _ _ (by first|rfl|(simp;done)|(simp;omega))).mono ?_);rintro e w9 ⟨rfl,rfl⟩)|((with_reducible refine (aE _ _ _ (by first|rfl|(simp;done)|(simp;omega))).mono ?_);rintro e w9 ⟨rfl,rfl⟩)));exact ⟨rfl,Or.inr ⟨by omega,rfl,(f0.trans f1).trans f2⟩⟩
         | true=>
          have HO:=hd' (show (ks.all Lib.validD&&decide ks.Nodup)=true by rw [hv,hd];rfl);have HD:=hd' hd;clear hd hv;go_wp2_with (first|(go_at_call 131;((with_reducible refine YI.out.mono ?_);rintro e w1 ⟨rfl,f1⟩;have d4:=((f1.blk g0 (fun e=>e)).cell 4).trans (show _=some (Value.slice ka ks.length kc) from rfl)))|(go_at_call 134;((with_reducible refine (HSI.out _ f1).mono ?_);rintro e w2 ⟨rfl,f2⟩;rw [HD.out]))|(go_at_call 130;first|((with_reducible refine (aA _ _ _ (by first|rfl|(simp;done)|(simp;omega))).mono ?_);rintro e w9 ⟨rfl,rfl⟩)|((with_reducible refine (aE _ _ _ (by first|rfl|(simp;done)|(simp;omega))).mono ?_);rintro e w9 ⟨rfl,rfl⟩)));go_meet;exact ⟨HO,f1.trans f2⟩
       case rest=>
        obtain ⟨HV,f6⟩:=hcut;have gc:=f6.blk g0 (fun e=>e);have fc:=f0.trans f6;clear c0 c1 c2 c3 c4 Hka Up X0 f6;have c0:wc.cell? ⟨w.heap.size,0,none⟩=some (.int .i64 k):=(gc.cell 0).trans rfl;have c1:wc.cell? ⟨w.heap.size,1,none⟩=some (.int .i64 i):=(gc.cell 1).trans rfl;have c2:wc.cell? ⟨w.heap.size,2,none⟩=some (.string ⟨t.toArray⟩):=(gc.cell 2).trans rfl;have c3:wc.cell? ⟨w.heap.size,3,none⟩=some (.slice la l.length lc):=(gc.cell 3).trans rfl;have c4:wc.cell? ⟨w.heap.size,4,none⟩=some (.slice ka ks.length kc):=(gc.cell 4).trans rfl;go_upto_region 7 with fail;go_cut [] (fun wx=>Hid (gL k i=true)/\wc=wx)
        case first=>
         have P4:gL k i=false->q=93:=fun h=>NQ.out (by simp [aW,h]);have NU:=hd' P4;clear P4;cases b1:(i==0) with
         | true=>
          have HO:=hd' (show gL k i=true by simp [gL,b1]);go_wp2_with (go_at_call 130;first|((with_reducible refine (aA _ _ _ (by first|rfl|(simp;done)|(simp;omega))).mono ?_);rintro e w9 ⟨rfl,rfl⟩)|((with_reducible refine (aE _ _ _ (by first|rfl|(simp;done)|(simp;omega))).mono ?_);rintro e w9 ⟨rfl,rfl⟩));go_meet;exact ⟨HO,rfl⟩
         | false=>
          cases b2:(k==3) with
          | false=>
           have e:q=93:=NU.out (by simp [gL,b1,b2]);go_wp2_with (go_at_call 130;first|((with_reducible refine (aA _ _ _ (by first|rfl|(simp;done)|(simp;omega))).mono ?_);rintro e w9 ⟨rfl,rfl⟩)|((with_reducible refine (aE _ _ _ (by first|rfl|(simp;done)|(simp;omega))).mono ?_);rintro e w9 ⟨rfl,rfl⟩));exact ⟨rfl,Or.inr ⟨by omega,rfl,fc⟩⟩
          | true=>
           by_cases b3:i<=9007199254740991
           ·by_cases b4 : -9007199254740991<=i
            ·have HO:=hd' (show gL k i=true by unfold gL;rw [b2,decide_eq_true b3,decide_eq_true b4,b1];rfl);go_wp2_with (go_at_call 130;first|((with_reducible refine (aA _ _ _ (by first|rfl|(simp;done)|(simp;omega))).mono ?_);rintro e w9 ⟨rfl,rfl⟩)|((with_reducible refine (aE _ _ _ (by first|rfl|(simp;done)|(simp;omega))).mono ?_);rintro e w9 ⟨rfl,rfl⟩));go_meet;exact ⟨HO,rfl⟩
            ·have e:q=93:=NU.out (by unfold gL;rw [b2,decide_eq_true b3,decide_eq_false b4,b1];rfl);go_wp2_with (go_at_call 130;first|((with_reducible refine (aA _ _ _ (by first|rfl|(simp;done)|(simp;omega))).mono ?_);rintro e w9 ⟨rfl,rfl⟩)|((with_reducible refine (aE _ _ _ (by first|rfl|(simp;done)|(simp;omega))).mono ?_);rintro e w9 ⟨rfl,rfl⟩));exact ⟨rfl,Or.inr ⟨by omega,rfl,fc⟩⟩
           ·have e:q=93:=NU.out (by unfold gL;rw [b2,decide_eq_false b3,b1];rfl);go_wp2_with (go_at_call 130;first|((with_reducible refine (aA _ _ _ (by first|rfl|(simp;done)|(simp;omega))).mono ?_);rintro e w9 ⟨rfl,rfl⟩)|((with_reducible refine (aE _ _ _ (by first|rfl|(simp;done)|(simp;omega))).mono ?_);rintro e w9 ⟨rfl,rfl⟩));exact ⟨rfl,Or.inr ⟨by omega,rfl,fc⟩⟩
        case rest=>
         obtain ⟨HI,rfl⟩:=hcut;have Bm:=IE.out.1;have XY:=hx.eG fc;go_upto_region 8 with fail;go_cut [] (fun wx=>Hid (gg k t=true)/\Fr NoB wc wx)
         case first=>
          have P4:gg k t=false->q=93:=fun h=>NQ.out (by simp [aW,h]);have NU:=hd' P4;clear P4;cases t with
          | nil=>
           have HO:=hd' (show gg k []=true from rfl);go_wp2_with (go_at_call 130;first|((with_reducible refine (aA _ _ _ (by first|rfl|(simp;done)|(simp;omega))).mono ?_);rintro e w9 ⟨rfl,rfl⟩)|((with_reducible refine (aE _ _ _ (by first|rfl|(simp;done)|(simp;omega))).mono ?_);rintro e w9 ⟨rfl,rfl⟩));go_meet;exact ⟨HO,Fr.refl _ _⟩
          | cons c0 t0=>
           have hne:((c0::t0:Bs)==[])=false:=rfl;generalize (c0::t0:Bs)=u at *;cases b2:(k==4) with
           | false=>
            have e:q=93:=NU.out (by simp [gg,hne,b2]);go_wp2_with (go_at_call 130;first|((with_reducible refine (aA _ _ _ (by first|rfl|(simp;done)|(simp;omega))).mono ?_);rintro e w9 ⟨rfl,rfl⟩)|((with_reducible refine (aE _ _ _ (by first|rfl|(simp;done)|(simp;omega))).mono ?_);rintro e w9 ⟨rfl,rfl⟩));exact ⟨rfl,Or.inr ⟨by omega,rfl,fc⟩⟩
           | true=>
            cases hv:Lib.validD u with
            | false=>
             have e:q=93:=NU.out (by simp [gg,hne,hv]);have HU:=hd' (xq u wc XY Bm hv);clear hv;go_wp2_with (first|(go_at_call 133;((with_reducible refine HU.out.mono ?_);rintro e w1 ⟨rfl,f1⟩))|(go_at_call 130;first|((with_reducible refine (aA _ _ _ (by first|rfl|(simp;done)|(simp;omega))).mono ?_);rintro e w9 ⟨rfl,rfl⟩)|((with_reducible refine (aE _ _ _ (by first|rfl|(simp;done)|(simp;omega))).mono ?_);rintro e w9 ⟨rfl,rfl⟩)));exact ⟨rfl,Or.inr ⟨by omega,rfl,fc.trans f1⟩⟩
            | true=>
             have HO:=hd' (show gg k u=true by unfold gg;rw [hv,b2];simp);have HU:=hd' (rQ u wc XY Bm hv);clear hv;go_wp2_with (first|(go_at_call 133;((with_reducible refine HU.out.mono ?_);rintro e w1 ⟨rfl,f1⟩))|(go_at_call 130;first|((with_reducible refine (aA _ _ _ (by first|rfl|(simp;done)|(simp;omega))).mono ?_);rintro e w9 ⟨rfl,rfl⟩)|((with_reducible refine (aE _ _ _ (by first|rfl|(simp;done)|(simp;omega))).mono ?_);rintro e w9 ⟨rfl,rfl⟩)));go_meet;exact ⟨HO,f1⟩
         case rest=>
          obtain ⟨HX,f8⟩:=hcut;have gd:=f8.blk gc (fun e=>e);have fd:=fc.trans f8;clear c0 c1 c2 c3 c4 f8 gc XY Bm;have D2:aW k i t l.length ks=true:=by
           have e1:=HB.out;have e2:=HK.out;have e3:=HV.out;have e4:=HI.out;have e5:=HX.out;unfold aW;rw [decide_eq_true mc,decide_eq_true hk7,e1,e2,e3,e4,e5];rfl
          have Ud:Hid (q=bI (n+1) l):=hd' (by rw [HQ.out,HA.out,D2];rfl);have Yl:Hid (∀ x∈l,CK (n+1) x):=hd' (fun x UJ=>by
           refine BB.out ?_ x UJ;have e1:=HB.out;have e0:=HA.out;(have hne:¬ (l.length:Int)=0:=by intro h0;have:l=[]:=List.eq_nil_of_length_eq_zero (by omega);subst this;simp at UJ);rw [decide_eq_false hne,Bool.or_false] at e1;rw [e1] at e0;(have:(n:Int)<32:=by simpa using e0);omega)
          have bu:Hid (∀ x∈l,Jl x):=hd' (sr.get l IY);clear D2 HB HK HV HI HX HQ HA BB NQ IY Hkv IE;have c3:wc.cell? ⟨w.heap.size,3,none⟩=some (.slice la l.length lc):=(gd.cell 3).trans rfl;go_wp2_with fail;go_loopw [109] (fun v wr=>∃ m:Nat,m<=l.length/\v=.int .i64 m/\Fr NoB w wr/\Hid (q=bI (n+1) (l.drop m))) (fun v _=>l.length - (intOf v).toNat)
          case atStart=>exact ⟨0,Nat.zero_le _,rfl,fd,Ud⟩
          case round=>
           obtain ⟨m,hm,rfl,hf,HD⟩:=hrel;clear c3 gd fd;by_cases hlt:m<l.length
           ·obtain ⟨hcs,dd⟩:=Yk.out;rcases dd with ⟨h0,_⟩|⟨g,o,c,he,hg,hcell⟩
            ·omega
            ·simp only [Value.slice.injEq,true_and] at he;obtain ⟨rfl,rfl⟩:=he;obtain ⟨v0,v1,v2,v3,v4,a0,a1,a2,a3,a4,hat⟩:=aq.get l cs m hlt hcs;have key:∀ (p:Nat) u,cs[p]?=some u->wr.cell? ⟨g,o+p,none⟩=some u:=fun p u hu=>(hf.cell (p:=⟨g,o+p,none⟩) (hS g hg) (fun e=>e)).trans (hcell p u hu);have d0:wr.cell? ⟨g,o+m*5,none⟩=some v0:=key _ _ a0;have d1:wr.cell? ⟨g,o+m*5+1,none⟩=some v1:=key _ _ a1;have d2:wr.cell? ⟨g,o+m*5+2,none⟩=some v2:=key _ _ a2;have d3:wr.cell? ⟨g,o+m*5+3,none⟩=some v3:=key _ _ a3;have d4:wr.cell? ⟨g,o+m*5+4,none⟩=some v4:=key _ _ a4;have h1c:=hat.one;have yz:CK (n+1) l[m]:=Yl.out l[m] (List.getElem_mem hlt);have Uq:=bu.out l[m] (List.getElem_mem hlt);have nT:=xC (n+1) l m hlt;rw [<- HD.out] at nT;generalize l[m]=x at hat yz Uq nT;have HR:Hid (∀ W3,Fr NoB wr W3->Calls Tryz.prog 79 #[.agg #[v0,v1,v2,v3,v4],.int .i64 ((n:Int)+1)] W3 (D0 (aw (n+1) x) W3)):=hd' (fun W3 f=>by
              have:=yz S (.agg #[v0,v1,v2,v3,v4]) W3 (hx.eG (hf.trans f)) (fun g hg=>Nat.lt_of_lt_of_le (hS g hg) (hf.trans f).size) (aG.fr (fun g hg=>(hf.trans f).block g (hS g hg) (fun e=>e)) x _ hat) Uq;simpa using this)
             clear yz Uq hat key hcell a0 a1 a2 a3 a4 hcs Yl bu Yk HD;have n2:=Blk.new wr 31 zj;by_cases hz:aw (n+1) x=0
             ·rw [if_pos hz] at nT;have E0:=hd' nT;have mW:Hid (∀ W3,Fr NoB wr W3->Calls Tryz.prog 79 #[.agg #[v0,v1,v2,v3,v4],.int .i64 ((n:Int)+1)] W3 fun e w'=>e=.returned (.tuple #[])/\Fr NoB W3 w'):=hd' (fun W3 f=>(HR.out W3 f).mono (fun e w' h=>by rcases h with ⟨_,h1,h2⟩|⟨h0,_⟩;exact ⟨h1,h2⟩;exact absurd hz h0));clear hz nT HR Ud;go_wp2_with (first|(refine wpList_store_row rfl 31 _ _ rfl wr.heap.size #[v0,v1,v2,v3,v4] rfl rfl 31 zj n2 ah rfl (dp h1c) ?_;have n3:=n2.setRow #[v0,v1,v2,v3,v4];have f4:Fr NoB wr ((wr.alloc (.cells zj 31)).setRow wr.heap.size #[v0,v1,v2,v3,v4]):=((Fr.refl NoB wr).alloc _).setRow wr.heap.size _ (Or.inl (Nat.le_refl _));generalize (wr.alloc (.cells zj 31)).setRow wr.heap.size #[v0,v1,v2,v3,v4]=W3 at n3 f4 ⊢)|(refine gI rfl _ rfl wr.heap.size rfl n3 rfl ?_)|(go_at_call 79;((with_reducible refine (mW.out _ f4).mono ?_);rintro e w5 ⟨rfl,f5⟩)));go_roundw
              case rel=>exact ⟨m+1,by omega,by simp,(hf.trans f4).trans f5,E0⟩
              case measure=>simp [intOf];omega
             ·rw [if_neg hz] at nT;have E0:=hd' nT;have mW:Hid (∀ W3,Fr NoB wr W3->Calls Tryz.prog 79 #[.agg #[v0,v1,v2,v3,v4],.int .i64 ((n:Int)+1)] W3 fun e w'=>e=Wr (aw (n+1) x)/\Fr NoB W3 w'):=hd' (fun W3 f=>(HR.out W3 f).mono (fun e w' h=>by rcases h with ⟨h0,_⟩|⟨_,h1,h2⟩;exact absurd h0 hz;exact ⟨h1,h2⟩));have HZ:=hd' hz;generalize aw (n+1) x=z at E0 mW HZ;clear hz nT HR Ud;go_wp2_with (first|(refine wpList_store_row rfl 31 _ _ rfl wr.heap.size #[v0,v1,v2,v3,v4] rfl rfl 31 zj n2 ah rfl (dp h1c) ?_;have n3:=n2.setRow #[v0,v1,v2,v3,v4];have f4:Fr NoB wr ((wr.alloc (.cells zj 31)).setRow wr.heap.size #[v0,v1,v2,v3,v4]):=((Fr.refl NoB wr).alloc _).setRow wr.heap.size _ (Or.inl (Nat.le_refl _));generalize (wr.alloc (.cells zj 31)).setRow wr.heap.size #[v0,v1,v2,v3,v4]=W3 at n3 f4 ⊢)|(refine gI rfl _ rfl wr.heap.size rfl n3 rfl ?_)|(go_at_call 79;((with_reducible refine (mW.out _ f4).mono ?_);rintro e w5 ⟨rfl,f5⟩)));exact ⟨rfl,Or.inr ⟨by rw [E0.out];exact HZ.out,by rw [E0.out],(hf.trans f4).trans f5⟩⟩
           ·obtain rfl:m=l.length:=by omega
            (have e:q=0:=by rw [HD.out,List.drop_length];simp [bI]);go_wp2_with fail;go_end0;exact Or.inl ⟨e,rfl,hf⟩
mutual
theorem JP:∀ (j:Jv) (n:Nat),n<=32->CK n j
 | .mk k i t l ks,n,hn=>by
  intro S v w hx hS hat eK;simp only [aG] at hat;obtain ⟨lv,kv,rfl,h2,h3,h4,h5,h6,cs,h7,h8⟩:=hat;simp only [Jl] at eK;exact Ch S n hn k i t l ks lv kv w hx hS h2 h3 h5.1 ⟨cs,h7,h8⟩ h6 ⟨eK.1,eK.2.1,eK.2.2.1⟩ eK.2.2.2 (fun Zy=>D5 l (n+1) Zy)
theorem D5:∀ (l:List Jv) (n:Nat),n<=32->∀ x∈l,CK n x
 | [],_,_,x,hx=>absurd hx (by simp)
 | j::r,n,hn,x,hx=>by
  cases hx with
  | head=>exact JP j n hn
  | tail _ h=>exact D5 r n hn x h
end
theorem su {fn:Func} (h:fn.results = #[.cell 2 32]) (tmps:Array Value) (w:World) (e:Nat) (n:Int)
  (hq:tmps.getD 2 undef=.pointer (some ⟨e,0,none⟩)) (he:Blk w e 32 #[.int .i64 n]) :
  (results fn tmps).run Tryz.prog w=.ok (.int .i64 n) w:=by
 have hq':tmps[2]?.getD undef=.pointer (some ⟨e,0,none⟩):=by simpa using hq
 simp [results,h,hq',asAddr,sw w e n he]
theorem pB {B:Nat} (S:Nat->Prop) (j:Jv) (v:Value) (w:World) (hx:Cx B w) (hS:∀ g,S g->g<w.heap.size) (hat:aG S w j v) (eK:Jl j) :
  Calls Tryz.prog 41 #[v] w fun e w'=>e=.returned (.int .i64 (aw 0 j:Int))/\Fr NoB w w':=by
 obtain ⟨v0,v1,v2,v3,v4,rfl,h1c⟩:∃ v0 v1 v2 v3 v4,v=.agg #[v0,v1,v2,v3,v4]/\∀ u∈[v0,v1,v2,v3,v4],u.oneCell'=true:=by
  cases j with
  | mk k i t l ks=>
   have h0:=hat;simp only [aG] at hat;obtain ⟨lv,kv,rfl,_⟩:=hat;exact ⟨_,_,_,_,_,rfl,h0.one⟩
 have f0:Fr NoB w ((w.alloc (.cells #[v0,v1,v2,v3,v4] 31)).alloc (.cells #[.int .i64 0] 32)):=((Fr.refl _ _).alloc _).alloc _;have g0:Blk ((w.alloc (.cells #[v0,v1,v2,v3,v4] 31)).alloc (.cells #[.int .i64 0] 32)) w.heap.size 31 #[v0,v1,v2,v3,v4]:=(Blk.new w 31 _).alloc _;have g1:Blk ((w.alloc (.cells #[v0,v1,v2,v3,v4] 31)).alloc (.cells #[.int .i64 0] 32)) (w.heap.size+1) 32 #[.int .i64 0]:=by
  have:=Blk.new (w.alloc (.cells #[v0,v1,v2,v3,v4] 31)) 32 #[.int .i64 0];simpa using this
 generalize hW:((w.alloc (.cells #[v0,v1,v2,v3,v4] 31)).alloc (.cells #[.int .i64 0] 32))=W at f0 g0 g1;have HC:Hid (Calls Tryz.prog 79 #[.agg #[v0,v1,v2,v3,v4],.int .i64 0] W (D0 (aw 0 j) W)):=hd' (by
  have:=JP j 0 (by omega) S (.agg #[v0,v1,v2,v3,v4]) W (hx.eG f0) (fun g hg=>Nat.lt_of_lt_of_le (hS g hg) f0.size) (aG.fr (fun g hg=>f0.block g (hS g hg) (fun e=>e)) j _ hat) eK;simpa using this)
 have HW:=hd' hW;have dw:=dp h1c;clear hW hat eK hS;generalize aw 0 j=q at HC ⊢;by_cases hz:q=0
 ·subst hz;have E9:Hid (Calls Tryz.prog 79 #[.agg #[v0,v1,v2,v3,v4],.int .i64 0] W fun e w'=>e=.returned (.tuple #[])/\Fr NoB W w'):=hd' (HC.out.mono (fun e w' h=>by rcases h with ⟨_,h1,h2⟩|⟨h0,_⟩;exact ⟨h1,h2⟩;exact absurd rfl h0));clear HC;go_enter_defers Tryz.func41,Tryz.ntmps41;go_wp2_with (first|(rw [HW.out];refine gI rfl _ rfl w.heap.size rfl g0 rfl ?_)|(go_at_call 79;((with_reducible refine E9.out.mono ?_);rintro e w2 ⟨rfl,f3⟩;have G1:=f3.blk g1 (fun e=>e);have c1:w2.cell? ⟨w.heap.size+1,0,none⟩=some (.int .i64 0):=(G1.cell 0).trans rfl;have z1:=G1.frozen 0)));refine leaves_cons (f:=78) (args := #[.pointer (some ⟨w.heap.size+1,0,none⟩)]) (by simp) (by simp [go_sem]) ?_;refine (qj ⟨w.heap.size+1,0,none⟩ _).mono ?_;rintro e' u' w5 ⟨rfl,rfl,rfl⟩;exact ⟨_,su rfl _ _ (w.heap.size+1) _ rfl ((G1.aS 0 _).alloc _),rfl,((f0.trans f3).setCell_new (p:=⟨w.heap.size+1,0,none⟩) (by simp) _).alloc _⟩
 ·have E9:Hid (Calls Tryz.prog 79 #[.agg #[v0,v1,v2,v3,v4],.int .i64 0] W fun e w'=>e=Wr q/\Fr NoB W w'):=hd' (HC.out.mono (fun e w' h=>by rcases h with ⟨h0,_⟩|⟨_,h1,h2⟩;exact absurd h0 hz;exact ⟨h1,h2⟩));clear HC;go_enter_defers Tryz.func41,Tryz.ntmps41;go_wp2_with (first|(rw [HW.out];refine gI rfl _ rfl w.heap.size rfl g0 rfl ?_)|(go_at_call 79;((with_reducible refine E9.out.mono ?_);rintro e w2 ⟨rfl,f3⟩)));have G1:=f3.blk g1 (fun e=>e);refine leaves_cons (f:=78) (args := #[.pointer (some ⟨w.heap.size+1,0,none⟩)]) (by simp) (by simp [go_sem]) ?_;refine (gZ ⟨w.heap.size+1,0,none⟩ 0 q [] w2 ((G1.cell 0).trans rfl) (G1.frozen 0) G1.lt).mono ?_;rintro e' u' w3 ⟨rfl,rfl,rfl⟩;exact ⟨_,su rfl _ _ (w.heap.size+1) _ rfl ((G1.alloc _).aS 0 _),rfl,((f0.trans f3).alloc _).setCell_new (p:=⟨w.heap.size+1,0,none⟩) (by simp) _⟩
theorem Ci:∀ a b:Bs,Lib.compareBytes a b<0 ↔ a<b
 | [],[]=>by simp [Lib.compareBytes]
 | [],b::bs=>by simp [Lib.compareBytes]
 | a::u,[]=>by simp [Lib.compareBytes]
 | a::u,b::v=>by
  rw [List.cons_lt_cons_iff,Lib.compareBytes];by_cases h1:a<b
  ·simp [h1]
  ·by_cases h2:b<a
   ·(have:a≠b:=fun e=>by subst e;exact h1 h2);simp [h1,h2,this]
   ·have:a=b:=UInt8.le_antisymm (UInt8.not_lt.1 h2) (UInt8.not_lt.1 h1);simp [this,Ci u v]
section
variable {α:Type} [Inhabited α] {enc:α->Value}
theorem nv {w:World} {g n:Nat} {os:Array Obj} (d:Array α):w.grownBy (sortWorld enc w g 0 n d os) (some g):=by
 refine ⟨rfl,rfl,rfl,by simp [sortWorld],fun k hk hne => ?_⟩;unfold sortWorld;rw [heap_grow_old _ _ (by simpa using hk)];have:g≠k:=fun e=>hne (by rw [e]);simp [putRow,mapBlock,Sort.ahead,Array.getElem?_modify,this]
theorem NY {w:World} {g n:Nat} {os:Array Obj} {cur:Array Value} {e:TypeId} {fr:Nat×Nat} (d:Array α) (hb:w.heap[g]?=some (.cells cur e fr)) :
  (sortWorld enc w g 0 n d os).heap[g]?=some (.cells (putCells enc 0 d cur) e fr):=by
 have hg:g<w.heap.size:=(Array.getElem?_eq_some_iff.1 hb).1;unfold sortWorld;rw [heap_grow_old _ _ (by simpa using hg)];simp [putRow,mapBlock,Sort.ahead,Array.getElem?_modify,hb,onCells]
theorem NZ (cur:Array Value) (ts:List α) (h:ts.length=cur.size):putCells enc 0 ts.toArray cur=(ts.map enc).toArray:=by
 apply Array.ext_getElem?;intro j;by_cases hj:j<ts.length
 ·simp [putCells,hj,show j<cur.size by omega]
 ·simp [putCells,show ¬ j<cur.size by omega,show ts.length<=j by omega]
theorem Cj {w:World} {g:Nat} {e:TypeId} (ts:List α) (hb:Blk w g e (ts.map enc).toArray):Holds enc w g 0 ts.toArray:=by
 intro j hj;have MH:j<ts.length:=by simpa using hj
 refine ⟨?_,hb.frozen _⟩;rw [hb.cell];simp [MH]
end
theorem Ck (ks:List Bs) (vb g o c:Nat) (w:World) (hv:w.cell? ⟨vb,4,none⟩=some (.slice (some ⟨g,o,none⟩) ks.length c)) (hc:∀ (i:Nat) u,(ks.map sV)[i]?=some u->w.cell? ⟨g,o+i,none⟩=some u) (x y:Nat) (hx:x<ks.length) (hy:y<ks.length) :
  Calls Tryz.prog 149 #[.int .i64 x,.int .i64 y,.pointer (some ⟨vb,0,none⟩)] w fun e w'=>e=.returned (.int .i64 (Lib.compareBytes ks[x] ks[y]))/\∃ q,w'=w.drewN q:=by
 have cx:=hc x _ (by rw [List.getElem?_map,List.getElem?_eq_getElem hx];rfl);have cy:=hc y _ (by rw [List.getElem?_map,List.getElem?_eq_getElem hy];rfl);generalize ks[x]=a at cx ⊢;generalize ks[y]=b at cy ⊢;generalize ks.length=n at *;clear hc;have i1:(0:Int)<=x:=by omega
 have i2:(x:Int)<n:=by omega
 have i3:(0:Int)<=y:=by omega
 have i4:(y:Int)<n:=by omega
 go_enter Tryz.func149,Tryz.ntmps149;go_wp2;go_quiet ((go_at_call 25;exact Calls.quiet_of_same (Tryz.strings_Compare ⟨a.toArray⟩ ⟨b.toArray⟩ _)));go_wp2;go_ret;exact ⟨rfl,_,rfl⟩
abbrev iV (n:Nat):Value:=.int .i64 (n:Int)
theorem JQ (n m:Nat) (h:m<n):(((List.range m).map iV++List.replicate (n - m) (Value.int .i64 0)).toArray).setIfInBounds m (iV m)=((List.range (m+1)).map iV++List.replicate (n - (m+1)) (Value.int .i64 0)).toArray:=by
 rw [List.setIfInBounds_toArray]
 congr 1
 have e:n - m=(n - (m+1))+1:=by omega
 rw [List.set_append_right _ _ (by simp),e,List.replicate_succ,List.range_succ];simp
theorem Cl (ks:List Bs) (vb g gk ok ck:Nat) (w:World) (hn:0<ks.length) (P5:ks.Nodup) (hl:ks.length<=big) (hb:Blk w g 3 ((List.range ks.length).map iV).toArray)
  (hv:w.cell? ⟨vb,4,none⟩=some (.slice (some ⟨gk,ok,none⟩) ks.length ck)) (hc:∀ (i:Nat) u,(ks.map sV)[i]?=some u->w.cell? ⟨gk,ok+i,none⟩=some u) (h1:vb≠g) (h2:gk≠g) (h3:vb<w.heap.size) (h4:gk<w.heap.size) :
  Calls Tryz.prog 148 #[.slice (some ⟨g,0,none⟩) ks.length ks.length,.func (.func 149) #[] #[.pointer (some ⟨vb,0,none⟩)]] w fun e w'=>e=.returned (.tuple #[])/\Blk w' g 3 ((aO true ks ks.length).map iV).toArray/\Fr (Only g) w w':=by
 haveI:Inhabited (Fin ks.length):=⟨⟨0,hn⟩⟩
 let enc:Fin ks.length->Value:=fun i=>iV i.val
 let cf:Fin ks.length->Fin ks.length->Int:=fun x y=>Lib.compareBytes ks[x.val] ks[y.val]
 have hlt:∀ x y,ltOf cf x y=decide (ks[x.val]<ks[y.val]):=fun x y=>by
  unfold ltOf;rw [decide_eq_decide];exact Ci _ _
 have hO:SWO (ltOf cf):={
  irrefl:=fun x=>by rw [hlt];simp [List.lt_irrefl]
  trans:=fun x y z a b=>by rw [hlt] at *;simp only [decide_eq_true_eq] at *;exact List.lt_trans a b
  ntrans:=fun x y z a b=>by rw [hlt] at *;simp only [decide_eq_false_iff_not] at *;exact List.not_lt.2 (List.le_trans (List.not_lt.1 b) (List.not_lt.1 a)) }
 have hT:∀ x y,ltOf cf x y=false->ltOf cf y x=false->x=y:=fun x y a b=>by
  rw [hlt] at a b;simp only [decide_eq_false_iff_not] at a b;have e:ks[x.val]=ks[y.val]:=List.le_antisymm (List.not_lt.1 b) (List.not_lt.1 a);apply Fin.ext;rcases Nat.lt_trichotomy x.val y.val with h|h|h
  ·exact absurd e (List.pairwise_iff_getElem.1 P5 x.val y.val x.isLt y.isLt h)
  ·exact h
  ·exact absurd e.symm (List.pairwise_iff_getElem.1 P5 y.val x.val y.isLt x.isLt h)
 have gJ:(List.finRange ks.length).map Fin.val=List.range ks.length:=by
  apply List.ext_getElem (by simp);intro i h1 h2;simp
 have hfl:((List.finRange ks.length).map enc)=(List.range ks.length).map iV:=by
  apply List.ext_getElem (by simp);intro i h1 h2;simp [enc]
 have eg:∀ args w,(callFunc 149 args).run Tryz.prog w=.ok (.enter 149 args) w:=enters_of Tryz.func149 (by kernel_rfl) rfl;have Rs:CmpLays1 Tryz.prog 149 #[.pointer (some ⟨vb,0,none⟩)] enc cf g 0 (List.finRange ks.length).toArray.size w:=by
  intro m os dk hs x y;have gb:=nv (enc:=enc) (w:=w) (g:=g) (n:=m) (os:=os) dk;have bk:∀ k,k<w.heap.size->k≠g->(sortWorld enc w g 0 m dk os).heap[k]?=w.heap[k]?:=fun k hk hne=>gb.block k hk (fun e=>hne (by cases e;rfl));refine (Ck ks vb gk ok ck _ ((World.cell?_of_block (w:=w) (bk vb h3 h1)).trans hv) (fun i u hu=>(World.cell?_of_block (w:=w) (bk gk h4 h2)).trans (hc i u hu)) x.val y.val x.isLt y.isLt).mono ?_;rintro e w' ⟨rfl,q,rfl⟩;exact ⟨rfl,q,#[],by rw [grow_empty]⟩
 have hH:Holds enc w g 0 (List.finRange ks.length).toArray:=Cj _ (by rw [hfl];exact hb);have main:=Any.slices_SortFunc_total Tryz.sortF enc (fun _=>rfl) cf hO 149 #[.pointer (some ⟨vb,0,none⟩)] g 0 ks.length (List.finRange ks.length).toArray w eg Rs hH hb.lt (by unfold big at hl;simp;omega) hT;have hsz:(List.finRange ks.length).toArray.size=ks.length:=by simp
 rw [hsz] at main;refine main.mono ?_;rintro e w' ⟨rfl,n,os,rfl⟩;have gb:=nv (enc:=enc) (w:=w) (g:=g) (n:=n) (os:=os) ((List.finRange ks.length).toArray.toList.mergeSort fun x y => !(ltOf cf) y x).toArray;refine ⟨rfl,?_,(Fr.refl (Only g) w).grown gb (fun j hj _=>by cases hj;rfl)⟩;have hh:=NY (enc:=enc) (n:=n) (os:=os) ((List.finRange ks.length).toArray.toList.mergeSort fun x y => !(ltOf cf) y x).toArray hb;rw [NZ _ _ (by simp [(List.mergeSort_perm _ _).length_eq])] at hh;have he:((List.finRange ks.length).toArray.toList.mergeSort fun x y => !(ltOf cf) y x).map enc=(aO true ks ks.length).map iV:=by
  have e1:enc=iV ∘ Fin.val:=rfl;rw [e1,<- List.map_map]
  congr 1
  rw [List.toList_toArray,List.map_mergeSort (s:=fun a b=>decide (af ks a<=af ks b)),gJ]
  ·rfl
  ·intro a _ b _;have ea:af ks a.val=ks[a.val]:=by simp [af,List.getD]
   have eb:af ks b.val=ks[b.val]:=by simp [af,List.getD]
   rw [hlt,ea,eb,<- decide_not,decide_eq_decide];exact List.not_lt
 rw [he] at hh;exact hh
theorem FC:(Tryz.prog.info? 3).map (fun i=>(i.zero,i.size,i.bytes))=some (some (.int .i64 0),1,8):=by kernel_rfl
theorem FD (n:Nat):madeCells #[Value.int .i64 0] n=Array.replicate n (Value.int .i64 0):=by
 unfold madeCells;apply Array.ext_getElem?;intro j;by_cases h:j<n
 ·simp [h,Nat.mod_one]
 ·simp [h]
theorem JR (n:Nat):Array.replicate n (Value.int .i64 0)=((List.range 0).map iV++List.replicate (n - 0) (Value.int .i64 0)).toArray:=by simp
theorem FH (S:Nat->Prop) (k i:Int) (t:Bs) (n:Nat) (ks:List Bs) (la:Option Addr) (lc:Nat) (kv:Value) (w:World) (hS:∀ g,S g->g<w.heap.size) (qE:aT S w kv ks.length (ks.map sV)) (hn:n*8<=big) (hk:k=6->ks.length=n/\ks.Nodup) :
  Calls Tryz.prog 103 #[jV k i t (.slice la n lc) kv] w fun e w'=>∃ g,e=.returned (.slice (some ⟨g,0,none⟩) n n)/\w.heap.size<=g/\Blk w' g 3 ((aO (k==6) ks n).map iV).toArray/\Fr NoB w w':=by
 unfold big at hn;have mV:=run_make_row' (P:=Tryz.prog) 160 3 (.int .i64 0) 8 Tryz.underlying160 FC rfl .i64 .i64 n (by omega) (by omega);rw [FD] at mV;have f0:Fr NoB w (w.alloc (.cells #[.int .i64 k,.int .i64 i,.string ⟨t.toArray⟩,.slice la n lc,kv] 31)):=(Fr.refl _ _).alloc _;have g0:=Blk.new w 31 #[.int .i64 k,.int .i64 i,.string ⟨t.toArray⟩,.slice la n lc,kv];have VA:(w.alloc (.cells #[.int .i64 k,.int .i64 i,.string ⟨t.toArray⟩,.slice la n lc,kv] 31)).heap.size=w.heap.size+1:=by simp
 have H1:=qE.fr (w':=w.alloc (.cells #[.int .i64 k,.int .i64 i,.string ⟨t.toArray⟩,.slice la n lc,kv] 31)) (fun g hg=>f0.block g (hS g hg) (fun e=>e));generalize hW:w.alloc (.cells #[.int .i64 k,.int .i64 i,.string ⟨t.toArray⟩,.slice la n lc,kv] 31)=W at f0 g0 VA H1;have HK:=hd' hk;have YJ:=hd' H1;have c0:W.cell? ⟨w.heap.size,0,none⟩=some (.int .i64 k):=(g0.cell 0).trans rfl;have c3:W.cell? ⟨w.heap.size,3,none⟩=some (.slice la n lc):=(g0.cell 3).trans rfl;have HW:=hd' hW;clear qE H1 hk hW;go_enter Tryz.func103,Tryz.ntmps103;go_wp2_with fail;rw [HW.out,<- VA];have f1:Fr NoB W (W.alloc (.cells (Array.replicate n (Value.int .i64 0)) 3)):=(Fr.refl _ _).alloc _;have gb:=Blk.new W 3 (Array.replicate n (Value.int .i64 0));generalize W.alloc (.cells (Array.replicate n (Value.int .i64 0)) 3)=V at f1 gb ⊢;rw [JR] at gb;have hne:w.heap.size≠W.heap.size:=by omega
 have hlt:w.heap.size<W.heap.size:=by omega
 generalize hGB:W.heap.size=GB at gb hne hlt ⊢;have HGB:=hd' hGB;clear hGB mV;go_loopw [11] (fun v wr=>∃ m:Nat,m<=n/\v=.int .i64 m/\Blk wr GB 3 ((List.range m).map iV++List.replicate (n - m) (Value.int .i64 0)).toArray/\Fr (Only GB) V wr) (fun v _=>n - (intOf v).toNat)
 case atStart=>exact ⟨0,Nat.zero_le _,rfl,gb,Fr.refl _ _⟩
 case round=>
  obtain ⟨m,hm,rfl,hb,ht⟩:=hrel;by_cases dd:m<n
  ·have hz:=hb.frozen m;have PQ:∃ u,wr.cell? ⟨GB,m,none⟩=some u:=by
    rw [hb.cell];rw [List.getElem?_toArray];exact ⟨_,List.getElem?_eq_getElem (by simp;omega)⟩
   obtain ⟨u,hu⟩:=PQ;have uk:=hb.aS m (iV m);rw [JQ n m dd] at uk;have HN:=hd' uk;have HF:=hd' (ht.only (o:=m) (iV m));clear hb uk;go_wp2_with fail;go_roundw
   case rel=>exact ⟨m+1,by omega,by simp,HN.out,HF.out⟩
   case measure=>simp [intOf];omega
  ·obtain rfl:m=n:=by omega
   have iD:Blk wr GB 3 ((List.range m).map iV).toArray:=by simpa using hb
   have hc0:wr.cell? ⟨w.heap.size,0,none⟩=some (.int .i64 k):=by
    rw [ht.cell (p:=⟨w.heap.size,0,none⟩) (by have:=f1.size;show w.heap.size<_;omega) (fun e=>hne e),f1.cell (p:=⟨w.heap.size,0,none⟩) (by show w.heap.size<_;have:=HGB.out;omega) (fun e=>e)];exact c0
   have fall:Fr NoB w wr:=(f0.trans f1).andThen ht (fun j hj e=>by have e':j=GB:=e;omega);by_cases hk6:k=6
   ·subst hk6;obtain ⟨MI,P5⟩:=HK.out rfl;have iE:wr.cell? ⟨w.heap.size,4,none⟩=some kv:=by
     rw [ht.cell (p:=⟨w.heap.size,4,none⟩) (by have:=f1.size;show w.heap.size<_;omega) (fun e=>hne e),f1.cell (p:=⟨w.heap.size,4,none⟩) (by show w.heap.size<_;have:=HGB.out;omega) (fun e=>e)];exact (g0.cell 4).trans rfl
    by_cases dx:m=0
    ·subst dx;have HC:Hid (∀ fv,Calls Tryz.prog 148 #[.slice (some ⟨GB,0,none⟩) 0 0,fv] wr fun e w'=>e=.returned (.tuple #[])/\w'=wr):=hd' (fun fv=>AnyF.slices_SortFunc_none (P:=Tryz.prog) (ρ:=Tryz.sortF_ren) { Tryz.sortF with } (some ⟨GB,0,none⟩) 0 fv wr);have ho:aO (6==(6:Int)) ks 0=[]:=List.eq_nil_of_length_eq_zero (bW _ _ _);clear iE;go_wp2_with (go_at_call 148;((with_reducible refine (HC.out _).mono ?_);rintro e w' ⟨rfl,rfl⟩));go_ret;exact ⟨GB,rfl,by omega,by rw [ho];simpa using iD,fall⟩
    ·rcases YJ.out with ⟨h0,_⟩|⟨gk,ok,ck,rfl,hgk,yz⟩
     ·omega
     ·have Fl:gk<w.heap.size:=hS gk hgk;subst MI;have VB:∀ (i:Nat) u,(ks.map sV)[i]?=some u->wr.cell? ⟨gk,ok+i,none⟩=some u:=fun i u hu=>by
       rw [ht.cell (p:=⟨gk,ok+i,none⟩) (by have:=f1.size;show gk<_;omega) (fun e=>by have e':gk=GB:=e;omega),f1.cell (p:=⟨gk,ok+i,none⟩) (by show gk<_;have:=HGB.out;omega) (fun e=>e)];exact yz i u hu
      have HC:=hd' (Cl ks w.heap.size GB gk ok ck wr (by omega) P5 (by unfold big;omega) iD iE VB (by omega) (by omega) (by have:=fall.size;have:=iD.lt;omega) (by have:=iD.lt;omega));clear iE VB;go_wp2_with (go_at_call 148;((with_reducible refine HC.out.mono ?_);rintro e w' ⟨rfl,ug,f3⟩));go_ret;exact ⟨GB,rfl,by omega,ug,fall.andThen f3 (fun j hj e=>by have e':j=GB:=e;omega)⟩
   ·(have aat:(k==6)=false:=by simpa using hk6);go_wp2_with fail;go_ret;exact ⟨GB,rfl,by omega,by rw [aat];exact iD,fall⟩
end Go.Proofs.YtbifjamddbpcjaaGreatDoor
