/- What the rows' list of library variables gives; a world that meets it. -/
import Derived.Test.YtbifjamddbpcjaaGreatDoorVd
import Derived.Test.YtbifjamddbpcjaaGreatDoorRows
import Derived.Stop.LaidErr
import Derived.Lib.LaidTab
import Derived.LaidHandle
import Derived.LaidLaws
import Derived.Deep.DeepLaidRun
import Derived.ProofKit
import Derived.OpenShut
import Derived.ShutString
import Derived.ChangeOld
import Derived.Deep.Slices
import Derived.Deep.Fields
import Derived.ChangeSame
import Derived.SliceStrings
namespace Go.Proofs.YtbifjamddbpcjaaGreatDoor
set_option maxRecDepth 100000
set_option maxHeartbeats 25600000
open Go.RowKit
theorem own:ownKnob Tryz.prog.godebug=none:=by kernel_rfl
theorem g_ety:Tryz.prog.globalNamed "errors.errorType" = some 1:=by kernel_rfl
theorem g_rty:(Tryz.prog.cutTypes.find? (·.1 == "internal/reflectlite.rtype")).map (·.2)=some 258:=by kernel_rfl
theorem oneErr:((List.range Tryz.prog.types.size).filter fun t=>Tryz.prog.rowNamed t [101,114,114,111,114])=[71]:=by kernel_rfl
theorem g_rng:Tryz.prog.globalNamed "strconv.ErrRange" = some 6:=by kernel_rfl
theorem g_syn:Tryz.prog.globalNamed "strconv.ErrSyntax" = some 5:=by kernel_rfl
theorem g_powT:(Tryz.prog.globals[2]?).map (·.type)=some 322:=by kernel_rfl
theorem g_d64:Tryz.prog.globalNamed "math/bits.deBruijn64tab" = some 8:=by kernel_rfl
abbrev laidL:List (String×DataW Unit):=Rows.jwkBackRow.laid
theorem laid_head {P:Program} {n:String} {x:DataW Unit} {r:List (String×DataW Unit)} {W:World} (h:laidMet P ((n,x)::r) W):∃ g t cs fuel p,P.globalNamed n=some g∧(P.globals[g]?).map (·.type)=some t∧W.var? P n=some cs∧DataW.trod (fun _=>()) P W 0 (fun _=>true) false fuel t cs.toList=some (x,p):=by
 obtain ⟨ps,⟨g,t,cs,fuel,p,q,h1,h2,h3,h4,_⟩,_⟩:=h
 exact ⟨g,t,cs,fuel,p,h1,h2,h3,h4⟩
theorem laid_iface {n nm:String} {d:DataW Unit} {r:List (String×DataW Unit)} {W:World} (g:Nat) (hg:Tryz.prog.globalNamed n=some g) (ht:(Tryz.prog.globals[g]?).map (·.type)=some 71) (h:laidMet Tryz.prog ((n,.iface nm d)::r) W):∃ te pe,W.cell? ⟨g,0,none⟩=some (.iface te pe):=by
 obtain ⟨g',t,cs,fuel,p,h1,h2,h3,h4⟩:=laid_head h
 obtain rfl:=Option.some.inj (hg.symm.trans h1)
 obtain rfl:=Option.some.inj (ht.symm.trans h2)
 obtain ⟨f1,u,v,hcs,_⟩:=iface_of_trod Tryz.underlying71 h4
 have:=World.var?_cell hg h3 0
 rw [← Array.getElem?_toList,hcs] at this
 exact ⟨u,v,this⟩
theorem cx_of {W:World} (h:laidMetH Tryz.prog laidL W):Cx 9 W:=by
 have h':laidMet Tryz.prog [("math/bits.deBruijn32tab",Rows.laid_math_bits_deBruijn32tab),("math/bits.deBruijn64tab",Rows.laid_math_bits_deBruijn64tab),("internal/strconv.uint64pow10",Rows.laid_internal_strconv_uint64pow10),("unicode/utf8.acceptRanges",Rows.laid_unicode_utf8_acceptRanges),("strconv.ErrRange",Rows.laid_strconv_ErrRange),("strconv.ErrSyntax",Rows.laid_strconv_ErrSyntax),("unicode/utf8.first",Rows.laid_unicode_utf8_first)] W∧handlesMet Tryz.prog [("errors.errorType",Rows.laid_errors_errorType)] W:=h
 obtain ⟨h1,h2⟩:=h'
 have hp:=h1.tail.tail
 have hr:=hp.tail.tail
 have hs:=hr.tail
 refine ⟨Nat.le_refl _,?_,?_,?_,?_,?_⟩
 ·obtain ⟨te,pe,hc⟩:=laid_iface 6 g_rng (by kernel_rfl) hr
  obtain ⟨g,t,cs,fuel,p,e1,e2,e3,e4⟩:=laid_head h1.tail
  obtain rfl:=Option.some.inj (g_d64.symm.trans e1)
  simp only [World.var?,g_d64,Option.bind_some] at e3
  have:8<W.heap.size:=by
   rcases Nat.lt_or_ge 8 W.heap.size with h|h
   ·exact h
   ·rw [Array.getElem?_eq_none h] at e3;cases e3
  omega
 ·exact Lib.tabIs_of_head gpow g_powT Tryz.underlying322 Tryz.underlying113 (by kernel_rfl) (by kernel_rfl) hp
 ·exact laid_iface 5 g_syn (by kernel_rfl) hs
 ·exact laid_iface 6 g_rng (by kernel_rfl) hr
 ·obtain ⟨name,u,ty,e1,e2,e3,e4,e5⟩:=h2 _ (List.mem_singleton.2 rfl)
  have en:name=[101,114,114,111,114]:=(Option.some.inj e1).symm
  subst en
  obtain rfl:=Option.some.inj (g_rty.symm.trans e2)
  have hm:ty∈(List.range Tryz.prog.types.size).filter fun t=>Tryz.prog.rowNamed t [101,114,114,111,114]:=List.mem_filter.2 ⟨List.mem_range.2 e3,e4⟩
  rw [oneErr] at hm
  obtain rfl:=List.mem_singleton.1 hm
  have hh:typeHandle Tryz.prog 71=.pointer (some ⟨9,71,none⟩):=by kernel_rfl
  rw [hh] at e5
  simpa using World.var?_cell g_ety e5 0
mutual
def flatD:DataW Unit→List Value
 | .lit (.int k n)=>[.int k n]
 | .agg l=>flatDs l
 | _=>[]
def flatDs:List (DataW Unit)→List Value
 | []=>[]
 | d::r=>flatD d++flatDs r
end
def putC (cs:List Value):Obj→Obj
 | .cells _ t frozen=>.cells cs.toArray t frozen
 | o=>o
noncomputable def low:Nat:=(World.holding Tryz.prog default ⟨#[],#[],[]⟩).heap.size
noncomputable def laidWorld (os:Os):World:=
 let w0:=World.holding Tryz.prog os ⟨#[.cells #[.string ⟨#[105,110,118,97,108,105,100,32,115,121,110,116,97,120]⟩] 359,.cells #[.string ⟨#[118,97,108,117,101,32,111,117,116,32,111,102,32,114,97,110,103,101]⟩] 359],#[],[]⟩
 { w0 with heap:=(((((((w0.heap.modify 1 (putC [.iface 258 (.agg #[.pointer (some ⟨9,71,none⟩)])])).modify 2 (putC (flatD Rows.laid_internal_strconv_uint64pow10))).modify 3 (putC (flatD Rows.laid_unicode_utf8_first))).modify 4 (putC (flatD Rows.laid_unicode_utf8_acceptRanges))).modify 5 (putC [.iface 357 (.pointer (some ⟨low,0,none⟩))])).modify 6 (putC [.iface 357 (.pointer (some ⟨low+1,0,none⟩))])).modify 7 (putC (flatD Rows.laid_math_bits_deBruijn32tab))).modify 8 (putC (flatD Rows.laid_math_bits_deBruijn64tab)) }
theorem laidWorld_met (os:Os) (args:Array Value):laidMetH Tryz.prog laidL ((laidWorld os).forCall (fun _ _=>0) ⟨#[],args,[]⟩).memory:=
 laidMetH_of_parts (laidMet_of_run3 8 (by kernel_rfl) (by kernel_rfl) (by kernel_rfl)) (by kernel_rfl)
open Go.ChangeShapes Go.WideShapes Go.Deep Go.RowKit
theorem laidOut:laidOutB Tryz.prog=true:=by kernel_rfl
theorem block_add (a:Addr) (n:Nat):(a.add n).block=a.block:=by unfold Addr.add;split<;>rfl
mutual
theorem JSm_of:∀ j:Jv,szJ j≤8388608→JSm j
 | .mk k i t l ks,h=>by
  simp only [szJ] at h
  simp only [JSm]
  have h1:=szK_len ks
  exact ⟨by omega,by omega,fun s hs=>by have:=szK_mem ks s hs;omega,JSms_of l (by omega)⟩
theorem JSms_of:∀ l:List Jv,szL l≤8388608→JSms l
 | [],_=>by simp [JSms]
 | j::r,h=>by
  simp only [szL] at h
  simp only [JSms]
  exact ⟨JSm_of j (by omega),JSms_of r (by omega)⟩
end
theorem bulkAll_append {H:Type} (l r:List (DataW H)):Rows.uptoBulkAll (l++r)=Rows.uptoBulkAll l+Rows.uptoBulkAll r:=by
 induction l with
 | nil=>simp [Rows.uptoBulkAll]
 | cons x l ih=>simp only [List.cons_append,Rows.uptoBulkAll,ih];omega
theorem bulk_part {H:Type} {d:DataW H} {l:List (DataW H)} (h:d∈l):Rows.uptoBulk d≤Rows.uptoBulkAll l:=by
 induction l with
 | nil=>cases h
 | cons x r ih=>
  simp only [Rows.uptoBulkAll]
  cases List.mem_cons.1 h with
  | inl e=>subst e;omega
  | inr e=>have:=ih e;omega
theorem five {α:Type}:∀ (l:List α),l.length=5→∃ a b c d e,l=[a,b,c,d,e]
 | [a,b,c,d,e],_=>⟨a,b,c,d,e,rfl⟩
 | [],h=>by simp at h
 | [_],h=>by simp at h
 | [_,_],h=>by simp at h
 | [_,_,_],h=>by simp at h
 | [_,_,_,_],h=>by simp at h
 | _::_::_::_::_::_::_,h=>by simp at h
theorem int_ok {n:Int} (h:(Lit.int .i64 n).wf=true):IntOk n:=by
 have e1:IntKind.i64.min = -9223372036854775808:=rfl
 have e2:IntKind.i64.max=9223372036854775807:=rfl
 simp [Lit.wf,e1,e2] at h
 unfold IntOk;omega
section
variable {H:Type} {enc:TypeId×Value→H} {w:World} {base:Nat} {spare:Nat→Bool} {held:Bool}
theorem open_keys {fuel:Nat} {v:Value} {x:DataW H×List MemPlace} (h:DataW.trod enc Tryz.prog w base spare held fuel 29 [v]=some x) (hb:Rows.uptoBulk x.1≤1048576) :
  ∃ ks:List Bs,RStrs (fun g=>g<w.heap.size) w ks v∧szK ks+1≤Rows.uptoBulk x.1:=by
 rcases open_strings Tryz.underlying29 Tryz.underlying9 (by kernel_rfl) h with ⟨hc,hx⟩|⟨a,len,cap,ss,hc,hb0,hl,hm,hss,hx,hcell,hsz⟩
 ·simp at hc
  subst hc
  exact ⟨[],⟨Or.inl ⟨rfl,none,0,rfl⟩,by unfold big;simp,by simp⟩,by rw [hx];simp [szK,Rows.uptoBulk]⟩
 ·simp at hc
  subst hc
  have hlen:len≤ss.length:=by rw [hss];split<;>omega
  have hbu:∀ l:List ByteArray,szK (l.map (fun s=>s.data.toList))≤Rows.uptoBulkAll (strs (H:=H) l):=by
   intro l
   induction l with
   | nil=>simp [szK,Rows.uptoBulkAll,strs]
   | cons s r ih=>
    simp only [strs,List.map_cons,szK,Rows.uptoBulkAll,Rows.uptoBulk] at ih ⊢
    omega
  have hk:=hbu (ss.take len)
  rw [hx] at hb ⊢
  simp only [Rows.uptoBulk] at hb ⊢
  have hkl:=szK_len ((ss.take len).map (fun s=>s.data.toList))
  have hkm:=szK_mem ((ss.take len).map (fun s=>s.data.toList))
  have hll:((ss.take len).map (fun s=>s.data.toList)).length=len:=by simp;omega
  refine ⟨(ss.take len).map (fun s=>s.data.toList),⟨?_,by unfold big;omega,fun s hs=>by have:=hkm s hs;unfold big;omega⟩,by omega⟩
  rw [hll]
  by_cases h0:len=0
  ·subst h0;exact Or.inl ⟨rfl,some a,cap,rfl⟩
  ·have c0:=hcell 0 (by omega)
   have hsp:a.spot=none:=by simpa [Addr.add] using World.cell?_spot c0
   have hlt:=World.block_lt_of_cell? w _ c0
   rw [block_add] at hlt
   obtain ⟨b,off,spot⟩:=a
   simp only at hsp
   subst hsp
   refine Or.inr ⟨b,off,cap,rfl,hlt,fun i u hu => ?_⟩
   have hi:i<len:=by
    have:=(List.getElem?_eq_some_iff.1 hu).1
    simp at this;omega
   have hc:=hcell i (by omega)
   rw [add_at] at hc
   rw [hc]
   have hu2:(ss.take len)[i]?=some ss[i]:=by rw [List.getElem?_take_of_lt hi,List.getElem?_eq_getElem (by omega)]
   simp only [List.getElem?_map,hu2,Option.map_some,Option.some.injEq] at hu
   rw [← hu]
   simp [List.getD,show i<ss.length by omega]
theorem open_jv:∀ (N:Nat) (fuel:Nat) (cs:List Value) (d:DataW H) (pl:List MemPlace),Rows.uptoBulk d≤N→N≤1048576→DataW.trod enc Tryz.prog w base spare held fuel 31 cs=some (d,pl) →
  ∃ j v0 v1 v2 v3 v4,cs=[v0,v1,v2,v3,v4]∧RAt (fun g=>g<w.heap.size) w j (.agg #[v0,v1,v2,v3,v4])∧szJ j≤Rows.uptoBulk d:=by
 intro N
 induction N with
 | zero=>intro fuel cs d pl hd;exact absurd hd (by cases d with|lit l=>cases l<;>simp [Rows.uptoBulk]|_=>simp [Rows.uptoBulk])
 | succ N ih=>
 intro fuel cs d pl hd hN h
 obtain ⟨ys,n,_,hy,hcl,hyl,hf⟩:=DataW.trod_struct Tryz.underlying31 h
 simp only [Prod.mk.injEq] at hy
 obtain ⟨rfl,_⟩:=hy
 have hc5:Tryz.prog.cellsOf 31=5:=by kernel_rfl
 rw [hc5] at hcl
 obtain ⟨v0,v1,v2,v3,v4,rfl⟩:∃ v0 v1 v2 v3 v4,cs=[v0,v1,v2,v3,v4]:=five cs hcl
 have hys:ys.length=5:=hyl
 obtain ⟨y0,y1,y2,y3,y4,rfl⟩:∃ y0 y1 y2 y3 y4,ys=[y0,y1,y2,y3,y4]:=five ys hys
 have t0:DataW.trod enc Tryz.prog w base spare held n 3 [v0]=some y0:=hf 0 _ rfl
 have t1:DataW.trod enc Tryz.prog w base spare held n 3 [v1]=some y1:=hf 1 _ rfl
 have t2:DataW.trod enc Tryz.prog w base spare held n 9 [v2]=some y2:=hf 2 _ rfl
 have t3:DataW.trod enc Tryz.prog w base spare held n 28 [v3]=some y3:=hf 3 _ rfl
 have t4:DataW.trod enc Tryz.prog w base spare held n 29 [v4]=some y4:=hf 4 _ rfl
 clear hf
 have hbk:Rows.uptoBulk (.agg ([y0,y1,y2,y3,y4].map (·.1)):DataW H)=Rows.uptoBulk y0.1+(Rows.uptoBulk y1.1+(Rows.uptoBulk y2.1+(Rows.uptoBulk y3.1+(Rows.uptoBulk y4.1+0))))+1:=by simp only [List.map_cons,List.map_nil,Rows.uptoBulk,Rows.uptoBulkAll]
 rw [hbk] at hd ⊢
 obtain ⟨z0,e0,x0,w0⟩:=DataW.trod_int Tryz.underlying3 t0
 obtain ⟨z1,e1,x1,w1⟩:=DataW.trod_int Tryz.underlying3 t1
 obtain ⟨s2,e2,x2,w2⟩:=DataW.trod_string Tryz.underlying9 t2
 simp only [List.cons.injEq,and_true] at e0 e1 e2
 subst e0 e1 e2
 have b0:Rows.uptoBulk y0.1=1:=by rw [x0];simp [Rows.uptoBulk]
 have b1:Rows.uptoBulk y1.1=1:=by rw [x1];simp [Rows.uptoBulk]
 have b2:Rows.uptoBulk y2.1=s2.data.toList.length+1:=by rw [x2];simp [Rows.uptoBulk]
 obtain ⟨ks,hks,hkb⟩:=open_keys t4 (by omega)
 have fin:∀ (l:List Jv) (cs:List Value),RCells (fun g=>g<w.heap.size) w l cs→InMem (fun g=>g<w.heap.size) w v3 l.length cs→szL l+1≤Rows.uptoBulk y3.1→∃ j v0 v1 v2' v3' v4',[Value.int .i64 z0,.int .i64 z1,.string s2,v3,v4]=[v0,v1,v2',v3',v4']∧RAt (fun g=>g<w.heap.size) w j (.agg #[v0,v1,v2',v3',v4'])∧szJ j≤Rows.uptoBulk y0.1+(Rows.uptoBulk y1.1+(Rows.uptoBulk y2.1+(Rows.uptoBulk y3.1+(Rows.uptoBulk y4.1+0))))+1:=by
  intro l cs h1 h2 h3
  refine ⟨.mk z0 z1 s2.data.toList l ks,_,_,_,_,_,rfl,?_,?_⟩
  ·simp only [RAt]
   have hl:=szL_len l
   exact ⟨v3,v4,by simp [jV],int_ok w0,int_ok w1,by unfold big;omega,hks,by unfold big;omega,cs,h1,h2⟩
  ·simp only [szJ];omega
 rcases open_slice Tryz.underlying28 t3 with ⟨hc,hx⟩|⟨a,len,cap,m,nn,D,Pl,hc,hb0,hl,hm,hmm,hx,hi⟩
 ·simp at hc
  subst hc
  exact fin [] [] (by simp [RCells]) (Or.inl ⟨rfl,none,0,rfl⟩) (by rw [hx];simp [szL,Rows.uptoBulk])
 ·simp at hc
  subst hc
  have hlm:len≤m:=by rw [hmm];split<;>omega
  rw [hc5] at hi
  have hb3:Rows.uptoBulk y3.1=Rows.uptoBulkAll ((List.range len).map D)+Rows.uptoBulkAll ((List.range (m - len)).map fun j=>D (len+j))+1:=by rw [hx];simp [Rows.uptoBulk]
  have step:∀ k,k≤len→∃ (l:List Jv) (cs:List Value),l.length=k∧RCells (fun g=>g<w.heap.size) w l cs∧(∀ (i:Nat) u,cs[i]?=some u→w.cell? (a.add i)=some u)∧szL l≤Rows.uptoBulkAll ((List.range k).map D):=by
   intro k
   induction k with
   | zero=>intro _;exact ⟨[],[],rfl,by simp [RCells],by simp,by simp [szL,Rows.uptoBulkAll]⟩
   | succ k ihk=>
    intro hk
    obtain ⟨l,cs,h1,h2,h3,h4⟩:=ihk (by omega)
    obtain ⟨cs',hcs',htr⟩:=hi k (by omega)
    have hDk:Rows.uptoBulk (D k)≤Rows.uptoBulkAll ((List.range len).map D):=bulk_part (List.mem_map.2 ⟨k,List.mem_range.2 (by omega),rfl⟩)
    obtain ⟨j,u0,u1,u2,u3,u4,rfl,hat,hsz⟩:=ih nn cs' (D k) (Pl k) (by omega) (by omega) htr
    obtain ⟨_,_,hat'⟩:=World.cells?_some hcs'
    refine ⟨l++[j],cs++[u0,u1,u2,u3,u4],by simp [h1],RCells.snoc hat l cs h2,?_,?_⟩
    ·intro i u hu
     have hcl:=RCells.len l cs h2
     by_cases hlt:i<cs.length
     ·exact h3 i u (by rwa [List.getElem?_append_left hlt] at hu)
     ·rw [List.getElem?_append_right (by omega)] at hu
      have hi5:i - cs.length<5:=by have:=(List.getElem?_eq_some_iff.1 hu).1;simpa using this
      have hc:=hat' (i - cs.length) hi5
      rw [add_add,show k*5+(i - cs.length)=i by omega,hu] at hc
      exact hc
    ·rw [szL_snoc,List.range_succ,List.map_append,bulkAll_append]
     simp only [List.map_cons,List.map_nil,Rows.uptoBulkAll]
     omega
  obtain ⟨l,cs,h1,h2,h3,h4⟩:=step len (Nat.le_refl _)
  refine fin l cs h2 ?_ (by omega)
  rw [h1]
  by_cases h0:len=0
  ·subst h0;exact Or.inl ⟨rfl,some a,cap,rfl⟩
  ·have hcl:=RCells.len l cs h2
   have c0:=h3 0 cs[0] (List.getElem?_eq_getElem (by omega))
   have hsp:a.spot=none:=by simpa [Addr.add] using World.cell?_spot c0
   have hlt:=World.block_lt_of_cell? w _ c0
   rw [block_add] at hlt
   obtain ⟨b,off,spot⟩:=a
   simp only at hsp
   subst hsp
   exact Or.inr ⟨b,off,cap,rfl,hlt,fun i u hu=>by have:=h3 i u hu;rwa [add_at] at this⟩
end
end Go.Proofs.YtbifjamddbpcjaaGreatDoor
