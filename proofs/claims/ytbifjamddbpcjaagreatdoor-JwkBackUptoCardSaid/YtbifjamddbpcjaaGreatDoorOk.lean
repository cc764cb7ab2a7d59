/- An argument that is a key, or a slice of keys, opened; how great it is. -/
import Derived.Test.YtbifjamddbpcjaaGreatDoorCa
import Derived.Test.YtbifjamddbpcjaaGreatDoorYk
import Derived.Test.YtbifjamddbpcjaaGreatDoorGs
import Derived.Laws.StructEq
namespace Go.Proofs.YtbifjamddbpcjaaGreatDoor
set_option maxRecDepth 100000
set_option maxHeartbeats 25600000
open Go.ChangeShapes Go.WideShapes Go.Deep Go.RowKit
theorem ktwo_of {α:Type}:∀ (l:List α),l.length=2→∃ a b,l=[a,b]
 | [a,b],_=>⟨a,b,rfl⟩
 | [],h=>by simp at h
 | [_],h=>by simp at h
 | _::_::_::_,h=>by simp at h
theorem ksix_of {α:Type}:∀ (l:List α),l.length=6→∃ a b c d e f,l=[a,b,c,d,e,f]
 | [a,b,c,d,e,f],_=>⟨a,b,c,d,e,f,rfl⟩
 | [],h=>by simp at h
 | [_],h=>by simp at h
 | [_,_],h=>by simp at h
 | [_,_,_],h=>by simp at h
 | [_,_,_,_],h=>by simp at h
 | [_,_,_,_,_],h=>by simp at h
 | _::_::_::_::_::_::_::_,h=>by simp at h
theorem keight_of {α:Type}:∀ (l:List α),l.length=8→∃ a b c d e f g h,l=[a,b,c,d,e,f,g,h]
 | [a,b,c,d,e,f,g,h],_=>⟨a,b,c,d,e,f,g,h,rfl⟩
 | [],h=>by simp at h
 | [_],h=>by simp at h
 | [_,_],h=>by simp at h
 | [_,_,_],h=>by simp at h
 | [_,_,_,_],h=>by simp at h
 | [_,_,_,_,_],h=>by simp at h
 | [_,_,_,_,_,_],h=>by simp at h
 | [_,_,_,_,_,_,_],h=>by simp at h
 | _::_::_::_::_::_::_::_::_::_,h=>by simp at h
def szY (k:Ky):Nat:=k.kid.length+k.alg.length+k.n.length+k.e.length+k.x.length+k.y.length+k.sec.length
def szYs:List Ky→Nat
 | []=>0
 | k::r=>szY k+1+szYs r
theorem szYs_snoc (l:List Ky) (k:Ky):szYs (l++[k])=szYs l+(szY k+1):=by
 induction l with
 | nil=>simp [szYs]
 | cons a r ih=>simp only [List.cons_append,szYs,ih];omega
theorem szYs_len (l:List Ky):l.length≤szYs l:=by
 induction l with
 | nil=>simp
 | cons a r ih=>simp only [List.length_cons,szYs];omega
theorem szYs_mem {l:List Ky} {k:Ky} (h:k∈l):szY k≤szYs l:=by
 induction l with
 | nil=>cases h
 | cons a r ih=>
  simp only [szYs]
  rcases List.mem_cons.1 h with rfl|h
  ·omega
  ·have:=ih h;omega
theorem sm_of {k:Ky} (hi:IntOk k.kty) (h:szY k≤1048576):KySm k:=by
 unfold szY at h
 exact ⟨hi,by unfold lot;omega,by unfold lot;omega,by unfold lot;omega,by unfold lot;omega,by unfold lot;omega,by unfold lot;omega,by unfold lot;omega⟩
def kyCs (l:List Ky):List Value:=l.flatMap (fun k=>(kyC k).toList)
theorem kyCs_len (l:List Ky):(kyCs l).length=8*l.length:=by
 induction l with
 | nil=>rfl
 | cons a r ih=>
  have h8:(kyC a).toList.length=8:=rfl
  have e:kyCs (a::r)=(kyC a).toList++kyCs r:=rfl
  rw [e,List.length_append,ih,h8,List.length_cons];omega
theorem kyCs_snoc (l:List Ky) (k:Ky):kyCs (l++[k])=kyCs l++(kyC k).toList:=by simp [kyCs]
section
variable {H:Type} {enc:TypeId×Value→H} {w:World} {base:Nat} {spare:Nat→Bool} {held:Bool}
theorem open_str {fuel:Nat} {v:Value} {x:DataW H×List MemPlace} (h:DataW.trod enc Tryz.prog w base spare held fuel 9 [v]=some x):∃ s:Bs,v=.string ⟨s.toArray⟩∧Rows.uptoBulk x.1=s.length+1:=by
 obtain ⟨s,e,hx,_⟩:=DataW.trod_string Tryz.underlying9 h
 simp only [List.cons.injEq,and_true] at e
 subst e
 exact ⟨s.data.toList,by simp,by rw [hx];simp [Rows.uptoBulk]⟩
theorem open_rsa {fuel:Nat} {a b:Value} {x:DataW H×List MemPlace} (h:DataW.trod enc Tryz.prog w base spare held fuel 23 [a,b]=some x):∃ s t:Bs,a=.string ⟨s.toArray⟩∧b=.string ⟨t.toArray⟩∧s.length+t.length≤Rows.uptoBulk x.1:=by
 obtain ⟨ys,n,_,hy,hcl,hyl,hf⟩:=DataW.trod_struct Tryz.underlying23 h
 have hys:ys.length=2:=hyl
 obtain ⟨y0,y1,rfl⟩:=ktwo_of ys hys
 obtain ⟨s,rfl,h0⟩:=open_str (hf 0 _ rfl:DataW.trod enc Tryz.prog w base spare held n 9 [a]=some y0)
 obtain ⟨t,rfl,h1⟩:=open_str (hf 1 _ rfl:DataW.trod enc Tryz.prog w base spare held n 9 [b]=some y1)
 refine ⟨s,t,rfl,rfl,?_⟩
 rw [hy]
 simp only [List.map_cons,List.map_nil,Rows.uptoBulk,Rows.uptoBulkAll,h0,h1]
 omega
theorem open_ec {fuel:Nat} {a b:Value} {x:DataW H×List MemPlace} (h:DataW.trod enc Tryz.prog w base spare held fuel 25 [a,b]=some x):∃ s t:Bs,a=.string ⟨s.toArray⟩∧b=.string ⟨t.toArray⟩∧s.length+t.length≤Rows.uptoBulk x.1:=by
 obtain ⟨ys,n,_,hy,hcl,hyl,hf⟩:=DataW.trod_struct Tryz.underlying25 h
 have hys:ys.length=2:=hyl
 obtain ⟨y0,y1,rfl⟩:=ktwo_of ys hys
 obtain ⟨s,rfl,h0⟩:=open_str (hf 0 _ rfl:DataW.trod enc Tryz.prog w base spare held n 9 [a]=some y0)
 obtain ⟨t,rfl,h1⟩:=open_str (hf 1 _ rfl:DataW.trod enc Tryz.prog w base spare held n 9 [b]=some y1)
 refine ⟨s,t,rfl,rfl,?_⟩
 rw [hy]
 simp only [List.map_cons,List.map_nil,Rows.uptoBulk,Rows.uptoBulkAll,h0,h1]
 omega
theorem open_ky {fuel:Nat} {cs:List Value} {x:DataW H×List MemPlace} (h:DataW.trod enc Tryz.prog w base spare held fuel 27 cs=some x):∃ k:Ky,cs=(kyC k).toList∧IntOk k.kty∧szY k+1≤Rows.uptoBulk x.1:=by
 obtain ⟨ys,n,_,hy,hcl,hyl,hf⟩:=DataW.trod_struct Tryz.underlying27 h
 have hc8:Tryz.prog.cellsOf 27=8:=by kernel_rfl
 rw [hc8] at hcl
 obtain ⟨v0,v1,v2,v3,v4,v5,v6,v7,rfl⟩:=keight_of cs hcl
 have hys:ys.length=6:=hyl
 obtain ⟨y0,y1,y2,y3,y4,y5,rfl⟩:=ksix_of ys hys
 have t0:DataW.trod enc Tryz.prog w base spare held n 3 [v0]=some y0:=hf 0 _ rfl
 have t1:DataW.trod enc Tryz.prog w base spare held n 9 [v1]=some y1:=hf 1 _ rfl
 have t2:DataW.trod enc Tryz.prog w base spare held n 9 [v2]=some y2:=hf 2 _ rfl
 have t3:DataW.trod enc Tryz.prog w base spare held n 23 [v3,v4]=some y3:=hf 3 _ rfl
 have t4:DataW.trod enc Tryz.prog w base spare held n 25 [v5,v6]=some y4:=hf 4 _ rfl
 have t5:DataW.trod enc Tryz.prog w base spare held n 9 [v7]=some y5:=hf 5 _ rfl
 clear hf
 obtain ⟨z,e0,x0,w0⟩:=DataW.trod_int Tryz.underlying3 t0
 simp only [List.cons.injEq,and_true] at e0
 subst e0
 obtain ⟨s1,rfl,b1⟩:=open_str t1
 obtain ⟨s2,rfl,b2⟩:=open_str t2
 obtain ⟨s3,s4,rfl,rfl,b3⟩:=open_rsa t3
 obtain ⟨s5,s6,rfl,rfl,b4⟩:=open_ec t4
 obtain ⟨s7,rfl,b5⟩:=open_str t5
 refine ⟨⟨z,s1,s2,s3,s4,s5,s6,s7⟩,rfl,int_ok w0,?_⟩
 rw [hy]
 simp only [List.map_cons,List.map_nil,Rows.uptoBulk,Rows.uptoBulkAll,b1,b2,b5,szY]
 omega
theorem open_kys {fuel:Nat} {v:Value} {x:DataW H×List MemPlace} (h:DataW.trod enc Tryz.prog w base spare held fuel 43 [v]=some x) :
  ∃ l:List Ky,InMem (fun g=>g<w.heap.size) w v l.length (kyCs l)∧(∀ k∈l,IntOk k.kty)∧szYs l+1≤Rows.uptoBulk x.1:=by
 have hc8:Tryz.prog.cellsOf 27=8:=by kernel_rfl
 rcases open_slice Tryz.underlying43 h with ⟨hc,hx⟩|⟨a,len,cap,m,nn,D,Pl,hc,hb0,hl,hm,hmm,hx,hi⟩
 ·simp at hc
  subst hc
  exact ⟨[],Or.inl ⟨rfl,none,0,rfl⟩,by simp,by rw [hx];simp [szYs,Rows.uptoBulk]⟩
 ·simp at hc
  subst hc
  have hlm:len≤m:=by rw [hmm];split<;>omega
  rw [hc8] at hi
  have hb3:Rows.uptoBulk x.1=Rows.uptoBulkAll ((List.range len).map D)+Rows.uptoBulkAll ((List.range (m - len)).map fun j=>D (len+j))+1:=by rw [hx];simp [Rows.uptoBulk]
  have step:∀ q,q≤len→∃ l:List Ky,l.length=q∧(∀ k∈l,IntOk k.kty)∧(∀ (i:Nat) u,(kyCs l)[i]?=some u→w.cell? (a.add i)=some u)∧szYs l≤Rows.uptoBulkAll ((List.range q).map D):=by
   intro q
   induction q with
   | zero=>intro _;exact ⟨[],rfl,by simp,by simp [kyCs],by simp [szYs]⟩
   | succ q ihq=>
    intro hq
    obtain ⟨l,h1,h2,h3,h4⟩:=ihq (by omega)
    obtain ⟨cs',hcs',htr⟩:=hi q (by omega)
    obtain ⟨k,rfl,hk1,hk2⟩:=open_ky htr
    obtain ⟨_,_,hat'⟩:=World.cells?_some hcs'
    refine ⟨l++[k],by simp [h1],?_,?_,?_⟩
    ·intro y hy
     rcases List.mem_append.1 hy with hy|hy
     ·exact h2 y hy
     ·rw [List.mem_singleton] at hy;subst hy;exact hk1
    ·intro i u hu
     have hcl:=kyCs_len l
     rw [kyCs_snoc] at hu
     by_cases hlt:i<(kyCs l).length
     ·exact h3 i u (by rwa [List.getElem?_append_left hlt] at hu)
     ·rw [List.getElem?_append_right (by omega)] at hu
      have hi8:i - (kyCs l).length<8:=by have:=(List.getElem?_eq_some_iff.1 hu).1;simpa using this
      have hc:=hat' (i - (kyCs l).length) hi8
      rw [add_add,show q*8+(i - (kyCs l).length)=i by omega,hu] at hc
      exact hc
    ·rw [szYs_snoc,List.range_succ,List.map_append,bulkAll_append]
     simp only [List.map_cons,List.map_nil,Rows.uptoBulkAll]
     have hk2':szY k+1≤Rows.uptoBulk (D q):=hk2
     omega
  obtain ⟨l,h1,h2,h3,h4⟩:=step len (Nat.le_refl _)
  refine ⟨l,?_,h2,by omega⟩
  rw [h1]
  by_cases h0:len=0
  ·subst h0;exact Or.inl ⟨rfl,some a,cap,rfl⟩
  ·have hcl:=kyCs_len l
   have c0:=h3 0 (kyCs l)[0] (List.getElem?_eq_getElem (by omega))
   have hsp:a.spot=none:=by simpa [Addr.add] using World.cell?_spot c0
   have hlt:=World.block_lt_of_cell? w _ c0
   rw [block_add] at hlt
   obtain ⟨b,off,spot⟩:=a
   simp only at hsp
   subst hsp
   exact Or.inr ⟨b,off,cap,rfl,hlt,fun i u hu=>by have:=h3 i u hu;rwa [add_at] at this⟩
end
open Go.RowKit
theorem szL_texts:∀ l:List (Bs×Bs),szL (l.map (fun p=>textJ p.2))+szK (l.map (fun p=>p.1))=(l.map (fun p=>p.2.length+p.1.length+6)).sum
 | []=>rfl
 | a::r=>by
  have:=szL_texts r
  simp only [List.map_cons,szL,szK,List.sum_cons,textJ,szJ]
  simp only [textJ] at this
  omega
theorem opt_sz (nm t:Bs):((optK nm t).map (fun p=>p.2.length+p.1.length+6)).sum≤t.length+nm.length+6:=by
 unfold optK;split<;>simp
theorem sorted_sz (k:Ky):((sortedK k).map (fun p=>p.2.length+p.1.length+6)).sum≤2*szY k+100:=by
 have oa:=opt_sz nAlg k.alg
 have oi:=opt_sz nKid k.kid
 have c1:nAlg.length=3:=rfl
 have c2:nKid.length=3:=rfl
 have c3:nKty.length=3:=rfl
 have c4:nE.length=1:=rfl
 have c5:nN.length=1:=rfl
 have c6:nCrv.length=3:=rfl
 have c7:nX.length=1:=rfl
 have c8:nY.length=1:=rfl
 have c9:nK.length=1:=rfl
 have d1:nRsa.length=3:=rfl
 have d2:nEc.length=2:=rfl
 have d3:nOct.length=3:=rfl
 have d4:nP256.length=5:=rfl
 unfold sortedK szY
 split
 ·simp only [List.map_append,List.sum_append,List.map_cons,List.map_nil,List.sum_cons,List.sum_nil,b64_len,c1,c2,c3,c4,c5,d1] at oa oi ⊢
  omega
 ·split
  ·simp only [List.map_append,List.sum_append,List.map_cons,List.map_nil,List.sum_cons,List.sum_nil,b64_len,c1,c2,c3,c6,c7,c8,d2,d4] at oa oi ⊢
   omega
  ·simp only [List.map_append,List.sum_append,List.map_cons,List.map_nil,List.sum_cons,List.sum_nil,b64_len,c1,c2,c3,c9,d3] at oa oi ⊢
   omega
theorem mem_sz (k:Ky):((membersK k).map (fun p=>p.2.length+p.1.length+6)).sum≤2*szY k+100:=by
 have c3:nKty.length=3:=rfl
 have c4:nE.length=1:=rfl
 have c5:nN.length=1:=rfl
 have c6:nCrv.length=3:=rfl
 have c7:nX.length=1:=rfl
 have c8:nY.length=1:=rfl
 have c9:nK.length=1:=rfl
 have d1:nRsa.length=3:=rfl
 have d2:nEc.length=2:=rfl
 have d3:nOct.length=3:=rfl
 have d4:nP256.length=5:=rfl
 unfold membersK szY
 split
 ·simp only [List.map_cons,List.map_nil,List.sum_cons,List.sum_nil,b64_len,c3,c4,c5,d1]
  omega
 ·split
  ·simp only [List.map_cons,List.map_nil,List.sum_cons,List.sum_nil,b64_len,c3,c6,c7,c8,d2,d4]
   omega
  ·simp only [List.map_cons,List.map_nil,List.sum_cons,List.sum_nil,b64_len,c3,c9,d3]
   omega
theorem objJ_sz (l:List (Bs×Bs)):szJ (objJ l)=5+(l.map (fun p=>p.2.length+p.1.length+6)).sum:=by
 have:=szL_texts l
 rw [objJ]
 simp only [szJ,List.length_nil]
 omega
theorem val_sz (k:Ky):szJ (valK k)≤2*szY k+105:=by
 have:=sorted_sz k
 rw [valK,objJ_sz];omega
theorem thumb_sz (k:Ky):szJ (thumbJ k)≤2*szY k+105:=by
 have:=mem_sz k
 rw [thumbJ,objJ_sz];omega
theorem more_sz (k:Ky):szJ (moreJ nUse (sortedK k))≤2*szY k+120:=by
 have h1:=sorted_sz k
 have h2:=szL_texts (sortedK k)
 have c1:nUse.length=3:=rfl
 rw [moreJ]
 simp only [szJ,szL,szK,Jv.nul,List.length_nil,c1]
 omega
def oneJ (k:Ky):Jv:=.mk 6 0 [] [.mk 5 0 [] [valK k] []] [nKeys]
def nXx:Bs:=[120]
def manyJ (l:List Ky):Jv:=.mk 6 0 [] [Jv.nul,.mk 5 0 [] (l.map valK) []] [nXx,nKeys]
theorem vals_check (n:Nat) (hn:n<32):∀ l:List Ky,(∀ k∈l,kyOk k=true)→checksP n (l.map valK)=0
 | [],_=>by simp [checksP]
 | k::r,h=>by
  rw [List.map_cons,checksP,if_pos (val_form (h k (by simp)) n hn)]
  exact vals_check n hn r (fun x hx=>h x (by simp [hx]))
theorem list_form (n:Nat) (hn:n<31) (l:List Ky) (h:∀ k∈l,kyOk k=true):checkP n (.mk 5 0 [] (l.map valK) [])=0:=by
 have hf:formP 5 0 [] (l.map valK).length []=true:=by simp [formP,nestK,keysOk,intIn,textIn]
 rw [checkP,hf,if_neg (by simp;omega),if_pos rfl]
 exact vals_check (n+1) (by omega) l h
theorem one_check {k:Ky} (h:kyOk k=true):checkP 0 (oneJ k)=0:=by
 have hf:formP 6 0 [] [Jv.mk 5 0 [] [valK k] []].length [nKeys]=true:=by kernel_rfl
 have hl:checkP (0+1) (Jv.mk 5 0 [] [valK k] [])=0:=list_form 1 (by omega) [k] (by simpa using h)
 rw [oneJ,checkP,hf,if_neg (by simp),if_pos rfl,checksP,if_pos hl,checksP]
theorem many_check {l:List Ky} (h:∀ k∈l,kyOk k=true):checkP 0 (manyJ l)=0:=by
 have hf:formP 6 0 [] [Jv.nul,Jv.mk 5 0 [] (l.map valK) []].length [nXx,nKeys]=true:=by
  show formP 6 0 [] 2 [nXx,nKeys]=true
  kernel_rfl
 have hl:checkP (0+1) (Jv.mk 5 0 [] (l.map valK) [])=0:=list_form 1 (by omega) l h
 rw [manyJ,checkP,hf,if_neg (by simp),if_pos rfl,checksP,if_pos (nul_check _),checksP,if_pos hl,checksP]
theorem one_got (k:Ky):gotP (oneJ k) nKeys=some (.mk 5 0 [] [valK k] []):=by
 rw [gotP,oneJ]
 show (if (6:Int)=6 then _ else _)=_
 rw [if_pos rfl]
 rfl
theorem many_got (l:List Ky):gotP (manyJ l) nKeys=some (.mk 5 0 [] (l.map valK) []):=by
 rw [gotP,manyJ]
 show (if (6:Int)=6 then (plK nKeys [nXx,nKeys]).bind (fun i=>[Jv.nul,Jv.mk 5 0 [] (l.map valK) []][i]?) else _)=_
 rw [if_pos rfl,show plK nKeys [nXx,nKeys]=some 1 from by decide]
 rfl
theorem one_set {k:Ky} (h:kyOk k=true):setK (oneJ k)=some [k]:=by
 rw [setK,if_pos (one_check h),one_got]
 show (if (5:Int)=5∧1≤[valK k].length∧[valK k].length≤8 then setGo [] [valK k] else none)=_
 rw [if_pos ⟨rfl,by simp,by simp⟩]
 have:=set_go [k] [] (by simpa using h)
 simpa [dfree] using this
theorem many_set {l:List Ky} (h:∀ k∈l,kyOk k=true):setK (manyJ l)=if 1≤l.length∧l.length≤8∧dfree [] l=true then some l else none:=by
 rw [setK,if_pos (many_check h),many_got]
 show (if (5:Int)=5∧1≤(l.map valK).length∧(l.map valK).length≤8 then setGo [] (l.map valK) else none)=_
 rw [List.length_map,set_go l [] h,List.nil_append]
 by_cases h1:1≤l.length∧l.length≤8
 ·rw [if_pos ⟨rfl,h1⟩]
  by_cases h2:dfree [] l=true
  ·rw [if_pos h2,if_pos ⟨h1.1,h1.2,h2⟩]
  ·rw [if_neg h2,if_neg (fun e=>h2 e.2.2)]
 ·rw [if_neg (fun e=>h1 e.2),if_neg (fun e=>h1 ⟨e.1,e.2.1⟩)]
def clash (out:List Ky) (k:Ky):Bool:=out.any (fun o=>decide (o.kid=k.kid)&&decide (k.kid≠[]))
theorem dfree_snoc:∀ (r out:List Ky) (k:Ky),dfree out (r++[k])=(dfree out r && !clash (out++r) k)
 | [],out,k=>by simp [dfree,clash]
 | a::r,out,k=>by
  rw [List.cons_append,dfree,dfree_snoc r (out++[a]) k,dfree,List.append_assoc,List.singleton_append,Bool.and_assoc]
theorem clash_snoc (l:List Ky) (o k:Ky):clash (l++[o]) k=(clash l k || (decide (o.kid=k.kid)&&decide (k.kid≠[]))):=by simp [clash]
theorem vals_sz:∀ (l:List Ky) (x:Jv),x∈l.map valK→(∀ k∈l,szY k≤1048576)→szJ x≤8388608:=by
 intro l x hx h
 obtain ⟨k,hk,rfl⟩:=List.mem_map.1 hx
 have:=val_sz k
 have:=h k hk
 omega
theorem vals_jsm (l:List Ky) (h:∀ k∈l,szY k≤1048576):JSms (l.map valK):=by
 induction l with
 | nil=>simp [JSms]
 | cons k r ih=>
  rw [List.map_cons,JSms]
  refine ⟨JSm_of _ ?_,ih (fun x hx=>h x (by simp [hx]))⟩
  have:=val_sz k
  have:=h k (by simp)
  omega
theorem many_jsm (l:List Ky) (h:∀ k∈l,szY k≤1048576):JSm (manyJ l):=by
 rw [manyJ]
 simp only [JSm,JSms,Jv.nul]
 refine ⟨by simp,by simp,?_,⟨by simp,by simp,by simp,trivial⟩,⟨by simp,by simp,by simp,vals_jsm l h⟩,trivial⟩
 intro s hs
 simp only [List.mem_cons,List.not_mem_nil,or_false] at hs
 rcases hs with rfl|rfl
 ·exact Nat.le_of_ble_eq_true rfl
 ·exact Nat.le_of_ble_eq_true rfl
def thumbP (k:Ky):Bs:=b64P (sumP (textT (thumbJ k)).1)
theorem thumb_len (k:Ky):(thumbP k).length=43:=by rw [thumbP,b64_len,sumP_len]
theorem thumb_back (k:Ky):from64 (thumbP k)=some (sumP (textT (thumbJ k)).1):=from_b64 _
def gY:Bs:=[89,81]
def gS1:Bs:=[123,34,107,34,58,34,89,81,34,44,34,107,116,121,34,58,34,111,99,116,34,44,34,120,34,58,49,125]
def gS2:Bs:=[123,34,107,34,58,34,89,81,34,44,34,107,116,121,34,58,34,111,99,116,34,44,34,107,105,100,34,58,34,34,125]
def gS3:Bs:=[123,34,107,101,121,115,34,58,91,93,125]
def gT1:Bs:=[123,34,107,34,58,34,89,81,34,44,34,107,105,100,34,58,34,49,34,44,34,107,116,121,34,58,34,111,99,116,34,125]
def gT2:Bs:=[123,34,107,34,58,34,89,81,34,44,34,107,116,121,34,58,34,111,99,116,34,125]
def gJ1:Jv:=.mk 6 0 [] [textJ gY,textJ nOct,.mk 3 1 [] [] []] [nK,nKty,nX]
def gJ2:Jv:=.mk 6 0 [] [textJ gY,textJ nOct,textJ []] [nK,nKty,nKid]
def gJ3:Jv:=.mk 6 0 [] [.mk 5 0 [] [] []] [nKeys]
def gk:Ky:=⟨2,[49],[],[],[],[],[],[97]⟩
def gk1:Ky:=⟨2,[],[],[],[],[],[],[97]⟩
theorem gp1:parseP gS1=.ok gJ1:=by kernel_rfl
theorem gp2:parseP gS2=.ok gJ2:=by kernel_rfl
theorem gp3:parseP gS3=.ok gJ3:=by kernel_rfl
theorem go1:ofK gJ1=some gk1:=by kernel_rfl
theorem go2:ofK gJ2=none:=by kernel_rfl
theorem go3:setK gJ3=none:=by kernel_rfl
theorem gok:kyOk gk=true:=by kernel_rfl
theorem gv1:valK gk=objJ [(nK,gY),(nKid,[49]),(nKty,nOct)]:=by kernel_rfl
theorem gv2:thumbJ gk=objJ [(nK,gY),(nKty,nOct)]:=by kernel_rfl
theorem gor1:orderP true [nK,nKid,nKty] 3=[0,1,2]:=by
 unfold orderP
 rw [if_pos rfl]
 exact List.mergeSort_of_pairwise (by decide)
theorem gor2:orderP true [nK,nKty] 2=[0,1]:=by
 unfold orderP
 rw [if_pos rfl]
 exact List.mergeSort_of_pairwise (by decide)
theorem gl1a:itemsL true [nK,nKid,nKty] (laysP [textJ gY,textJ [49],textJ nOct])=(orderP true [nK,nKid,nKty] 3).map (memP true [nK,nKid,nKty] (laysP [textJ gY,textJ [49],textJ nOct])):=by kernel_rfl
theorem gl1b:layP (objJ [(nK,gY),(nKid,[49]),(nKty,nOct)])=123::(joinC (itemsL true [nK,nKid,nKty] (laysP [textJ gY,textJ [49],textJ nOct]))++[125]):=by kernel_rfl
theorem gl1:layP (objJ [(nK,gY),(nKid,[49]),(nKty,nOct)])=gT1:=by
 rw [gl1b,gl1a,gor1]
 kernel_rfl
theorem gl2a:itemsL true [nK,nKty] (laysP [textJ gY,textJ nOct])=(orderP true [nK,nKty] 2).map (memP true [nK,nKty] (laysP [textJ gY,textJ nOct])):=by kernel_rfl
theorem gl2b:layP (objJ [(nK,gY),(nKty,nOct)])=123::(joinC (itemsL true [nK,nKty] (laysP [textJ gY,textJ nOct]))++[125]):=by kernel_rfl
theorem gl2:layP (objJ [(nK,gY),(nKty,nOct)])=gT2:=by
 rw [gl2b,gl2a,gor2]
 kernel_rfl
theorem gc1:checkP 0 (objJ [(nK,gY),(nKid,[49]),(nKty,nOct)])=0:=by kernel_rfl
theorem gc2:checkP 0 (objJ [(nK,gY),(nKty,nOct)])=0:=by kernel_rfl
theorem gt1:textT (valK gk)=(gT1,0):=by rw [gv1];unfold textT;rw [gc1,gl1];rfl
theorem gt2:textT (thumbJ gk)=(gT2,0):=by rw [gv2];unfold textT;rw [gc2,gl2];rfl
theorem gth:thumbP gk=b64P (sumP gT2):=by rw [thumbP,gt2]
theorem rsa_same (a b:ByteArray) (u:World):(Op.equalIn 9999 23 (.agg #[.string a,.string b]) (.agg #[.string a,.string b])).run Tryz.prog u=.ok true u:=by
 have u2:=Tryz.underlying9
 have hS:Tryz.prog.underlying 23=some (.struct (Tryz.prog.fieldsOf 23)):=by kernel_rfl
 have hp:Tryz.prog.stoodInHeld 23=false:=by kernel_rfl
 rw [show (9999:Nat)=9998+1 from rfl,run_equalIn_agg u 9998 23 _ _ hS hp]
 clear hS hp
 simp only [Program.fieldsOf,Tryz.underlying23]
 go_simp
theorem ec_same (a b:ByteArray) (u:World):(Op.equalIn 9999 25 (.agg #[.string a,.string b]) (.agg #[.string a,.string b])).run Tryz.prog u=.ok true u:=by
 have u2:=Tryz.underlying9
 have hS:Tryz.prog.underlying 25=some (.struct (Tryz.prog.fieldsOf 25)):=by kernel_rfl
 have hp:Tryz.prog.stoodInHeld 25=false:=by kernel_rfl
 rw [show (9999:Nat)=9998+1 from rfl,run_equalIn_agg u 9998 25 _ _ hS hp]
 clear hS hp
 simp only [Program.fieldsOf,Tryz.underlying25]
 go_simp
theorem key_same (k:Ky) (u:World):(Op.equalIn 10000 27 (.agg (kyC k)) (.agg (kyC k))).run Tryz.prog u=.ok true u:=by
 obtain ⟨kty,kid,alg,n,e,x,y,sec⟩:=k
 have u1:=Tryz.underlying3
 have u2:=Tryz.underlying9
 have e1:=rsa_same ⟨n.toArray⟩ ⟨e.toArray⟩
 have e2:=ec_same ⟨x.toArray⟩ ⟨y.toArray⟩
 have a1:=Tryz.isAgg23
 have a2:=Tryz.isAgg25
 have z1:=Tryz.sizeOf23
 have z2:=Tryz.sizeOf25
 have hS:Tryz.prog.underlying 27=some (.struct (Tryz.prog.fieldsOf 27)):=by kernel_rfl
 have hp:Tryz.prog.stoodInHeld 27=false:=by kernel_rfl
 rw [show (10000:Nat)=9999+1 from rfl,run_equalIn_agg u 9999 27 _ _ hS hp]
 clear hS hp
 simp only [Program.fieldsOf,Tryz.underlying27]
 go_simp
theorem trim0_odd {s:Bs} (h:oddP s=true):∃ c r,s=c::r∧trim0 s=c::r:=by
 cases s with
 | nil=>cases h
 | cons c r=>
  refine ⟨c,r,rfl,?_⟩
  simp only [oddP,Bool.and_eq_true,bne_iff_ne,ne_eq] at h
  unfold trim0 Lib.trimLeftS
  rw [List.dropWhile_cons]
  have hc:([0]:List UInt8).contains c=false:=by simp [h.1]
  simp [h.1]
theorem bits_len {s:Bs} (h:oddP s=true) {m:Nat} (hb:bitsP s≤m):8*s.length≤m+8:=by
 obtain ⟨c,r,rfl,ht⟩:=trim0_odd h
 unfold bitsP at hb
 rw [ht] at hb
 simp only at hb
 omega
theorem ok_small {k:Ky} (h:kyOk k=true):szY k≤1000:=by
 have hk:=kty_of h
 obtain ⟨kty,kid,alg,n,e,x,y,sec⟩:=k
 simp only [kyOk,Bool.and_eq_true,wordK,decide_eq_true_eq] at h
 obtain ⟨⟨⟨_,h1⟩,⟨_,h2⟩⟩,h3⟩:=h
 simp only at hk h1 h2
 unfold szY
 simp only
 rcases hk with rfl|rfl|rfl
 ·simp [wantsK,rsaP] at h3
  obtain ⟨⟨⟨rfl,rfl⟩,rfl⟩,⟨⟨⟨⟨o1,o2⟩,_⟩,b1⟩,_⟩,b2⟩:=h3
  have l1:=bits_len o1 (m:=2048) b1
  have l2:=bits_len o2 (m:=32) b2
  simp;omega
 ·simp [wantsK,ecP] at h3
  obtain ⟨⟨⟨rfl,rfl⟩,rfl⟩,⟨e1,e2⟩,_⟩:=h3
  simp;omega
 ·simp [wantsK] at h3
  obtain ⟨⟨⟨⟨⟨rfl,rfl⟩,rfl⟩,rfl⟩,_⟩,e1⟩:=h3
  simp;omega
theorem ok_int {k:Ky} (h:kyOk k=true):IntOk k.kty:=by
 have:=kty_of h
 unfold IntOk;omega
end Go.Proofs.YtbifjamddbpcjaaGreatDoor
