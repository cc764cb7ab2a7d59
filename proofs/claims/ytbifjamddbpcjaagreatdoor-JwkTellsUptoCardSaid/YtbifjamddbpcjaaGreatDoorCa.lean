/- What the rows' list of library variables gives; a world that meets it. -/
import Derived.Test.YtbifjamddbpcjaaGreatDoorVd
import Derived.Test.YtbifjamddbpcjaaGreatDoorRows
import Derived.Stop.LaidErr
import Derived.Lib.LaidTab
import Derived.LaidHandle
import Derived.LaidLaws
import Derived.Deep.DeepLaidRun
import Derived.ProofKit
import Derived.OpenShut
import Derived.ShutString
import Derived.ChangeOld
import Derived.Deep.Slices
import Derived.Deep.Fields
import Derived.ChangeSame
import Derived.SliceStrings
namespace Go.Proofs.YtbifjamddbpcjaaGreatDoor
open Go.RowKit
theorem own:ownKnob Tryz.prog.godebug=none:=by kernel_rfl
theorem XP:Tryz.prog.globalNamed "errors.errorType" = some 1:=by kernel_rfl
theorem XQ:(Tryz.prog.cutTypes.find? (·.1 == "internal/reflectlite.rtype")).map (·.2)=some 258:=by kernel_rfl
theorem TL:((List.range Tryz.prog.types.size).filter fun t=>Tryz.prog.rowNamed t [101,114,114,111,114])=[71]:=by kernel_rfl
theorem Qz:Tryz.prog.globalNamed "strconv.ErrRange" = some 6:=by kernel_rfl
theorem XR:Tryz.prog.globalNamed "strconv.ErrSyntax" = some 5:=by kernel_rfl
theorem TM:(Tryz.prog.globals[2]?).map (·.type)=some 322:=by kernel_rfl
theorem QA:Tryz.prog.globalNamed "math/bits.deBruijn64tab" = some 8:=by kernel_rfl
abbrev QB:List (String×DataW Unit):=Rows.jwkBackRow.laid
theorem wJ {P:Program} {n:String} {x:DataW Unit} {r:List (String×DataW Unit)} {W:World} (h:laidMet P ((n,x)::r) W):∃ g t cs fuel p,P.globalNamed n=some g/\(P.globals[g]?).map (·.type)=some t/\W.var? P n=some cs/\DataW.trod (fun _=>()) P W 0 (fun _=>true) false fuel t cs.toList=some (x,p):=by
 obtain ⟨ps,⟨g,t,cs,fuel,p,q,h1,h2,h3,h4,_⟩,_⟩:=h;exact ⟨g,t,cs,fuel,p,h1,h2,h3,h4⟩
theorem nQ {n nm:String} {d:DataW Unit} {r:List (String×DataW Unit)} {W:World} (g:Nat) (hg:Tryz.prog.globalNamed n=some g) (ht:(Tryz.prog.globals[g]?).map (·.type)=some 71) (h:laidMet Tryz.prog ((n,.iface nm d)::r) W):∃ te pe,W.cell? ⟨g,0,none⟩=some (.iface te pe):=by
 obtain ⟨g',t,cs,fuel,p,h1,h2,h3,h4⟩:=wJ h;obtain rfl:=Option.some.inj (hg.symm.trans h1);obtain rfl:=Option.some.inj (ht.symm.trans h2);obtain ⟨f1,u,v,hcs,_⟩:=iface_of_trod Tryz.underlying71 h4;have:=World.var?_cell hg h3 0;rw [<- Array.getElem?_toList,hcs] at this;exact ⟨u,v,this⟩
theorem VG {W:World} (h:laidMetH Tryz.prog QB W):Cx 9 W:=by
 have h':laidMet Tryz.prog [("math/bits.deBruijn32tab",Rows.laid_math_bits_deBruijn32tab),("math/bits.deBruijn64tab",Rows.laid_math_bits_deBruijn64tab),("internal/strconv.uint64pow10",Rows.laid_internal_strconv_uint64pow10),("unicode/utf8.acceptRanges",Rows.laid_unicode_utf8_acceptRanges),("strconv.ErrRange",Rows.laid_strconv_ErrRange),("strconv.ErrSyntax",Rows.laid_strconv_ErrSyntax),("unicode/utf8.first",Rows.laid_unicode_utf8_first)] W/\handlesMet Tryz.prog [("errors.errorType",Rows.laid_errors_errorType)] W:=h;obtain ⟨h1,h2⟩:=h';have hp:=h1.tail.tail;have hr:=hp.tail.tail;have hs:=hr.tail;refine ⟨Nat.le_refl _,?_,?_,?_,?_,?_⟩
 ·obtain ⟨te,pe,hc⟩:=nQ 6 Qz (by kernel_rfl) hr;obtain ⟨g,t,cs,fuel,p,e1,e2,e3,e4⟩:=wJ h1.tail;obtain rfl:=Option.some.inj (QA.symm.trans e1);simp only [World.var?,QA,Option.bind_some] at e3;have:8<W.heap.size:=by
   rcases Nat.lt_or_ge 8 W.heap.size with h|h
   ·exact h
   ·rw [Array.getElem?_eq_none h] at e3;cases e3
  omega
 ·exact Lib.tabIs_of_head VD TM Tryz.underlying322 Tryz.underlying113 (by kernel_rfl) (by kernel_rfl) hp
 ·exact nQ 5 XR (by kernel_rfl) hs
 ·exact nQ 6 Qz (by kernel_rfl) hr
 ·obtain ⟨name,u,ty,e1,e2,e3,e4,e5⟩:=h2 _ (List.mem_singleton.2 rfl);have en:name=[101,114,114,111,114]:=(Option.some.inj e1).symm;subst en;obtain rfl:=Option.some.inj (XQ.symm.trans e2);have hm:ty∈(List.range Tryz.prog.types.size).filter fun t=>Tryz.prog.rowNamed t [101,114,114,111,114]:=List.mem_filter.2 ⟨List.mem_range.2 e3,e4⟩;rw [TL] at hm;obtain rfl:=List.mem_singleton.1 hm;have hh:typeHandle Tryz.prog 71=.pointer (some ⟨9,71,none⟩):=by kernel_rfl
  rw [hh] at e5;simpa using World.var?_cell XP e5 0
mutual
def wL:DataW Unit->List Value
 | .lit (.int k n)=>[.int k n]
 | .agg l=>L4 l
 | _=>[]
def L4:List (DataW Unit)->List Value
 | []=>[]
 | d::r=>wL d++L4 r
end
def Bg (cs:List Value):Obj->Obj
 | .cells _ t frozen=>.cells cs.toArray t frozen
 | o=>o
noncomputable def low:Nat:=(World.holding Tryz.prog default ⟨#[],#[],[]⟩).heap.size
noncomputable def pG (os:Os):World:=
 let w0:=World.holding Tryz.prog os ⟨#[.cells #[.string ⟨#[105,110,118,97,108,105,100,32,115,121,110,116,97,120]⟩] 359,.cells #[.string ⟨#[118,97,108,117,101,32,111,117,116,32,111,102,32,114,97,110,103,101]⟩] 359],#[],[]⟩
 { w0 with heap:=(((((((w0.heap.modify 1 (Bg [.iface 258 (.agg #[.pointer (some ⟨9,71,none⟩)])])).modify 2 (Bg (wL Rows.laid_internal_strconv_uint64pow10))).modify 3 (Bg (wL Rows.laid_unicode_utf8_first))).modify 4 (Bg (wL Rows.laid_unicode_utf8_acceptRanges))).modify 5 (Bg [.iface 357 (.pointer (some ⟨low,0,none⟩))])).modify 6 (Bg [.iface 357 (.pointer (some ⟨low+1,0,none⟩))])).modify 7 (Bg (wL Rows.laid_math_bits_deBruijn32tab))).modify 8 (Bg (wL Rows.laid_math_bits_deBruijn64tab)) }
theorem uw (os:Os) (args:Array Value):laidMetH Tryz.prog QB ((pG os).forCall (fun _ _=>0) ⟨#[],args,[]⟩).memory:=
 laidMetH_of_parts (laidMet_of_run3 8 (by kernel_rfl) (by kernel_rfl) (by kernel_rfl)) (by kernel_rfl)
open Go.ChangeShapes Go.WideShapes Go.Deep Go.RowKit
theorem laidOut:laidOutB Tryz.prog=true:=by kernel_rfl
mutual
theorem pI:∀ j:Jv,iY j<=8388608->Jl j
 | .mk k i t l ks,h=>by
  simp only [iY] at h;simp only [Jl];have h1:=wV ks;exact ⟨by omega,by omega,fun s hs=>by have:=qK ks s hs;omega,EP l (by omega)⟩
theorem EP:∀ l:List Jv,uH l<=8388608->sr l
 | [],_=>by simp [sr]
 | j::r,h=>by
  simp only [uH] at h;simp only [sr];exact ⟨pI j (by omega),EP r (by omega)⟩
end
theorem five {α:Type}:∀ (l:List α),l.length=5->∃ a b c d e,l=[a,b,c,d,e]
 | [a,b,c,d,e],_=>⟨a,b,c,d,e,rfl⟩
 | [],h=>by simp at h
 | [_],h=>by simp at h
 | [_,_],h=>by simp at h
 | [_,_,_],h=>by simp at h
 | [_,_,_,_],h=>by simp at h
 | _::_::_::_::_::_::_,h=>by simp at h
theorem RL {n:Int} (h:(Lit.int .i64 n).wf=true):IntOk n:=by
 have e1:IntKind.i64.min = -9223372036854775808:=rfl;have e2:IntKind.i64.max=9223372036854775807:=rfl;simp [Lit.wf,e1,e2] at h;unfold IntOk;omega
section
variable {H:Type} {enc:TypeId×Value->H} {w:World} {base:Nat} {spare:Nat->Bool} {held:Bool}
end
end Go.Proofs.YtbifjamddbpcjaaGreatDoor
