/- Package text: runes, Utf8. -/
import Derived.Test.YtbifjamddbpcjaaGreatDoorAs
import Derived.Test.YtbifjamddbpcjaaGreatDoorJb
import Derived.Lib.TrimU
import Derived.Lib.MapLaws
import Derived.RangeFuncBox
import Derived.RangeFuncLeaves
import Derived.Shelf.Abstract
import Derived.OwnWalkIn
import Derived.TacticsInMore
import Derived.LoopNIn
import Derived.LoopIn
import Derived.Maps.AppendAt
namespace Go.Proofs.YtbifjamddbpcjaaGreatDoor
set_option maxRecDepth 100000
set_option maxHeartbeats 25600000
open Go.RowKit
def jN (p:Bs) (n:Int):Value:=.iface 211 (.agg #[.string ⟨p.toArray⟩,.iface 144 (.agg #[.int .i64 n])])
theorem ji {B:Nat} (k n:Int) (w:World) (hx:Cx B w) (h0:0<=k) (h1:k<=281474976710656) :
  Calls Tryz.prog 88 #[.int .i64 k,.int .i64 n] w fun e w'=>e=.returned (jN (Lib.itoa k) n)/\Fr NoB w w':=by
 go_enter Tryz.func88,Tryz.ntmps88;go_wp2_with (go_at_call 100;((with_reducible refine (om k (by omega) (by omega) _ hx).mono ?_);rintro e w1 ⟨rfl,f1⟩));go_ret;exact ⟨rfl,f1⟩
theorem Jn (l:Bs) (pos:Nat):Utf8.decode ⟨l.toArray⟩ pos=Lib.decodeL (l.drop pos):=by
 unfold Lib.decodeL;rw [Lib.decode_at,Lib.decode_at];have hg:∀ j,(⟨l.toArray⟩:ByteArray).get! (pos+j)=(⟨(l.drop pos).toArray⟩:ByteArray).get! j:=fun j=>by
  simp [ByteArray.get!]
 have hs:(⟨l.toArray⟩:ByteArray).size - pos=(⟨(l.drop pos).toArray⟩:ByteArray).size - 0:=by
  show l.toArray.size - pos=(l.drop pos).toArray.size - 0;simp
 have h0:=hg 0;rw [Nat.add_zero] at h0;rw [hs,h0,hg 1,hg 2,hg 3]
def iN:Nat->Bs->List Nat
 | 0,_=>[]
 | f+1,l=>if l=[] then [] else (Lib.decodeL l).1::iN f (l.drop (Lib.decodeL l).2)
def jk (l:Bs):List Nat:=iN l.length l
theorem oo:∀ (n m:Nat) (l:Bs),l.length<=n->l.length<=m->iN n l=iN m l
 | 0,m,l,hn,_=>by
  obtain rfl:l=[]:=List.eq_nil_of_length_eq_zero (by omega);cases m<;>simp [iN]
 | n+1,0,l,_,hm=>by
  obtain rfl:l=[]:=List.eq_nil_of_length_eq_zero (by omega);simp [iN]
 | n+1,m+1,l,hn,hm=>by
  have hw:=Lib.decodeL_width l;unfold iN;by_cases h:l=[]
  ·simp [h]
  ·have hl:0<l.length:=List.length_pos_iff.2 h;rw [if_neg h,if_neg h,oo n m _ (by simp;omega) (by simp;omega)]
theorem zf {l:Bs} (h:l≠[]):jk l=(Lib.decodeL l).1::jk (l.drop (Lib.decodeL l).2):=by
 have hw:=Lib.decodeL_width l;have hl:0<l.length:=List.length_pos_iff.2 h;obtain ⟨n,hn⟩:∃ n,l.length=n+1:=⟨l.length - 1,by omega⟩;unfold jk;rw [hn,iN,if_neg h,oo n _ _ (by simp;omega) (Nat.le_refl _)]
theorem Fw (n b0 b1 b2 b3:Nat) (_h0:b0<256) (_h1:b1<256) (_h2:b2<256) (_h3:b3<256) (hd:(Lib.decodeN n b0 b1 b2 b3).1=65533) :
  (Lib.decodeN n b0 b1 b2 b3).2=1 ↔ ¬ (2<n/\b0=239/\b1=191/\b2=189):=by
 unfold Lib.decodeN at hd ⊢;by_cases c1:b0<128
 ·rw [if_pos c1] at hd;simp only at hd;omega
 rw [if_neg c1] at hd ⊢;by_cases c2:b0 / 32=6/\(1<n/\b1 / 64=2)
 ·rw [if_pos c2] at hd ⊢;by_cases d:b0 % 32*64+b1 % 64 >= 128
  ·rw [if_pos d] at hd;simp only at hd;omega
  ·rw [if_neg d];simp only [true_iff];omega
 rw [if_neg c2] at hd ⊢;by_cases c3:b0 / 16=14/\(1<n/\b1 / 64=2)/\(2<n/\b2 / 64=2)
 ·rw [if_pos c3] at hd ⊢;by_cases d:b0 % 16*4096+b1 % 64*64+b2 % 64 >= 2048/\(b0 % 16*4096+b1 % 64*64+b2 % 64<55296\/(57344<=b0 % 16*4096+b1 % 64*64+b2 % 64/\b0 % 16*4096+b1 % 64*64+b2 % 64<=1114111))
  ·rw [if_pos d] at hd ⊢;simp only at hd ⊢;constructor
   ·intro h;omega
   ·intro h;exfalso;apply h;omega
  ·rw [if_neg d];simp only [true_iff];omega
 rw [if_neg c3] at hd ⊢;by_cases c4:b0 / 8=30/\(1<n/\b1 / 64=2)/\(2<n/\b2 / 64=2)/\(3<n/\b3 / 64=2)
 ·rw [if_pos c4] at hd ⊢;by_cases d:b0 % 8*262144+b1 % 64*4096+b2 % 64*64+b3 % 64 >= 65536/\(b0 % 8*262144+b1 % 64*4096+b2 % 64*64+b3 % 64<55296\/(57344<=b0 % 8*262144+b1 % 64*4096+b2 % 64*64+b3 % 64/\b0 % 8*262144+b1 % 64*4096+b2 % 64*64+b3 % 64<=1114111))
  ·rw [if_pos d] at hd;simp only at hd;omega
  ·rw [if_neg d];simp only [true_iff];omega
 rw [if_neg c4];simp only [true_iff];omega
theorem Nl (l:Bs):Lib.hasPrefix l [239,191,189]=true ↔ (2<(⟨l.toArray⟩:ByteArray).size - 0/\((⟨l.toArray⟩:ByteArray).get! 0).toNat=239/\((⟨l.toArray⟩:ByteArray).get! (0+1)).toNat=191/\((⟨l.toArray⟩:ByteArray).get! (0+2)).toNat=189):=by
 have e:∀ (c:UInt8) (n:Nat) (hn:n<256),c.toNat=n ↔ c=n.toUInt8:=fun c n hn=>by
  constructor
  ·intro h;rw [<- h];simp
  ·intro h;subst h;simp;omega
 have hz:(⟨l.toArray⟩:ByteArray).size=l.length:=by show l.toArray.size=_;simp
 rw [hz]
 match l with
 | []=>simp [Lib.hasPrefix]
 | [a]=>simp [Lib.hasPrefix,List.isPrefixOf]
 | [a,b]=>simp [Lib.hasPrefix,List.isPrefixOf]
 | a::b::c::r=>
  simp only [ByteArray.get!,Lib.hasPrefix,List.isPrefixOf];rw [e _ 239 (by omega),e _ 191 (by omega),e _ 189 (by omega)];simp;constructor
  ·rintro ⟨rfl,rfl,rfl⟩;simp
  ·rintro ⟨h1,h2,h3⟩;exact ⟨h1.symm,h2.symm,h3.symm⟩
theorem Jo {l:Bs} (hd:(Lib.decodeL l).1=65533):(Lib.decodeL l).2=1 ↔ Lib.hasPrefix l [239,191,189]=false:=by
 unfold Lib.decodeL at hd ⊢;rw [Lib.decode_at] at hd ⊢;rw [Fw _ _ _ _ _ (UInt8.toNat_lt _) (UInt8.toNat_lt _) (UInt8.toNat_lt _) (UInt8.toNat_lt _) hd,<- Nl];simp
theorem Fr.iterAt {S:Nat->Prop} {a w:World} (h:Fr S a w) {k:Nat} (hk:a.heap.size<=k) (s:ByteArray) (pos:Nat):Fr S a (w.iterAt k s pos):=
 ⟨h.os,h.tape,h.output,by rw [Lib.iterAt_size];exact h.size,fun i hi hn=>(Lib.iterAt_other w k i s pos (by omega)).trans (h.block i hi hn)⟩
theorem Fr.Vp (w:World) (k:Nat) (s:ByteArray) (pos:Nat):Fr (Only k) w (w.iterAt k s pos):=
 ⟨rfl,rfl,rfl,by rw [Lib.iterAt_size];exact Nat.le_refl _,fun i _ hn=>Lib.iterAt_other w k i s pos hn⟩
theorem Jp {w w':World} {base k:Nat} {e:TypeId} {size:Nat} {v:Value} {n:Nat} {xs:List Value} (ho:w.ownsRow base e size v n xs) (f:Fr (Only k) w w') (hk:k<base):w'.ownsRow base e size v n xs:=
 f.row ho (fun g hg e=>by have h1:g=k:=e;have:=(ho.lt g hg).1;omega)
theorem mq {w w':World} {base:Nat} {e:TypeId} {size:Nat} {v:Value} {n:Nat} {xs:List Value} (ho:w.ownsRow base e size v n xs) (f:Fr NoB w w'):w'.ownsRow base e size v n xs:=
 f.row ho (fun _ _ e=>e)
theorem Jq {w:World} {base PY:Nat} {e:TypeId} {size:Nat} {v:Value} {n:Nat} {xs:List Value} (ho:w.ownsRow base e size v n xs) (hb:PY<=base):w.ownsRow PY e size v n xs:=by
 obtain ⟨h1,h2⟩:=ho;refine ⟨h1,?_⟩;rcases h2 with h2|⟨g,cap,cur,hv,hg,r⟩
 ·exact Or.inl h2
 ·exact Or.inr ⟨g,cap,cur,hv,by omega,r⟩
theorem vd:(Tryz.prog.info? 21).map (fun i=>(i.zero,i.size,i.bytes))=some (some (.int .i32 0),1,4):=by kernel_rfl
def Nn (s:Bs) (w:World) (e:Ending) (w':World):Prop:=
 ∃ v,e=.returned (.tuple #[v,.nilIface])/\w'.ownsRow w.heap.size 21 1 v (jk s).length ((jk s).map fun n=>Value.int .i32 (n:Nat))/\Fr NoB w w'
def Np (w:World) (e:Ending) (w':World):Prop:=
 ∃ p:Bs,e=.returned (.tuple #[.slice none 0 0,jN p 12])/\Fr NoB w w'
theorem vf {B:Nat} (s:Bs) (w:World) (hx:Cx B w) (hs:s.length<=35184372088832) :
  Calls Tryz.prog 181 #[.string ⟨s.toArray⟩] w fun e w'=>(Lib.validD s=true->Nn s w e w')/\(Lib.validD s=false->Np w e w'):=by
 obtain ⟨i0,hi,hz0,hz1,hz2⟩:=info_parts vd;have hsz:(⟨s.toArray⟩:ByteArray).size=s.length:=by show s.toArray.size=_;simp
 have Hsz:=hd' hsz;clear hsz;have hxd:=iu s;go_enter Tryz.func181,Tryz.ntmps181;go_wp2;go_loopw [4] (fun v wr=>∃ (pos:Nat) (acc:List Nat),pos<=s.length/\wr.heap[w.heap.size]?=some (.stringIter ⟨s.toArray⟩ pos)/\wr.ownsRow (w.heap.size+1) 21 1 v acc.length (acc.map fun n=>Value.int .i32 (n:Nat))/\Fr NoB w wr/\Hid (Lib.validD s=Lib.validD (s.drop pos))/\Hid (acc++jk (s.drop pos)=jk s)/\acc.length<=pos) (fun _ wr=>s.length - wr.iterPos w.heap.size)
 case atStart=>
  refine ⟨0,[],Nat.zero_le _,World.iter_heap w _ 0,World.ownsRow_nil _ _ _ _,?_,hd' rfl,hd' rfl,Nat.zero_le _⟩;exact (Fr.refl _ _).alloc _
 case round=>
  obtain ⟨pos,acc,xp,hit,hown,gJ,HV,HR,My⟩:=hrel;by_cases hp:pos<s.length
  ·have ph:pos<(⟨s.toArray⟩:ByteArray).size:=by rw [Hsz.out];exact hp
   have uk:∀ ty,(Instr.next (.pointer (some ⟨w.heap.size,0,none⟩)) true ty).run Tryz.prog wr=_:=fun ty=>Lib.run_next_any_at wr w.heap.size ⟨s.toArray⟩ pos ty hit ph;have hne:s.drop pos≠[]:=fun e=>by have:=congrArg List.length e;simp at this;omega
   have cj:=zf hne;have Um:=Lib.decodeL_width (s.drop pos);have Nb:=Lib.decodeL_rune (s.drop pos);have Bo:=Lib.decodeL_le (s.drop pos) hne;simp only [List.length_drop] at Bo;rw [Jn] at uk;have Un:=Lib.validD_step (s.drop pos) hne;have YE:=@Jo (s.drop pos);generalize hd:Lib.decodeL (s.drop pos)=d at uk cj Um Nb Bo Un YE;obtain ⟨r,n⟩:=d;simp only [List.drop_drop] at uk cj Um Nb Bo Un YE;obtain ⟨W1,hW1⟩:∃ W1,W1=wr.iterAt w.heap.size ⟨s.toArray⟩ (pos+n):=⟨_,rfl⟩;have Rc:W1.heap[w.heap.size]?=some (.stringIter ⟨s.toArray⟩ (pos+n)):=by rw [hW1];exact Lib.iterAt_heap wr w.heap.size _ pos _ hit
   have gh:=Jp hown (Fr.Vp wr w.heap.size ⟨s.toArray⟩ (pos+n)) (by omega);rw [<- hW1] at gh;have Nq:Fr NoB w W1:=by rw [hW1];exact gJ.iterAt (Nat.le_refl _) _ _
   rw [<- hW1] at uk;have zg:w.heap.size<W1.heap.size:=(Array.getElem?_eq_some_iff.1 Rc).1;have HH:Hid (pos<s.length->wr.iterPos w.heap.size=pos):=hd' (fun _=>by simp [World.iterPos,hit]);clear hW1 hown gJ hit hd hne ph;have Nr:r=65533->(n=1 ↔ Lib.hasPrefix (s.drop pos) [239,191,189]=false):=YE;clear YE;by_cases h1:r=65533/\n=1
   ·have Re:Lib.hasPrefix (s.drop pos) [239,191,189]=false:=(Nr h1.1).1 h1.2;(have hinv:Lib.validD s=false:=by rw [HV.out,Un,if_pos h1]);obtain ⟨rfl,rfl⟩:=h1;have Z7:=hd' hinv;clear Nr Un hinv cj HR HV;go_wp2_with (first|(go_at_call 174;((with_reducible refine (aI (s.drop pos) [239,191,189] _).mono ?_);rintro e w2 ⟨rfl,rfl⟩))|(go_at_call 88;((with_reducible refine (ji (B:=B) pos 12 _ (hx.eG Nq) (by omega) (by omega)).mono ?_);rintro e w2 ⟨rfl,f2⟩)));go_ret2;refine ⟨fun e => ?_,fun _=>⟨_,rfl,Nq.trans f2⟩⟩;rw [Z7.out] at e;cases e
   ·have hV2:Hid (Lib.validD s=Lib.validD (s.drop (pos+n))):=hd' (by rw [HV.out,Un,if_neg h1]);have Vq:Hid ((acc++[r])++jk (s.drop (pos+n))=jk s):=hd' (by rw [<- HR.out,cj];simp);have Ns:((r:Int)==65533)=false\/(r=65533/\Lib.hasPrefix (s.drop pos) [239,191,189]=true):=by
     by_cases hr:r=65533
     ·right;refine ⟨hr,?_⟩;cases hq:Lib.hasPrefix (s.drop pos) [239,191,189]
      ·exact absurd ⟨hr,(Nr hr).2 hq⟩ h1
      ·rfl
     ·left;exact beq_eq_false_iff_ne.2 (by omega)
    clear Nr Un cj HR HV h1;rcases Ns with Ns|⟨hr,Ns⟩
    ·go_wp2_with (at_builtin;refine wpList_append_own _ rfl _ _ 249 rfl (w.heap.size+1) 21 i0 (.int .i32 0) 1 4 Tryz.underlying249 hi hz0 hz1 hz2 rfl (by decide) _ _ _ rfl (mq gh ((Fr.refl _ _).alloc _)) ⟨W1.heap.size,0,none⟩ 1 1 [.int .i32 r] rfl rfl (cell_one_new _ _ _) (by intro u hu;rw [List.mem_singleton] at hu;subst hu;rfl) (by unfold maxLen;omega) (by omega) (by simp;omega) ?_;intro v3 w3 jl eh rP);have Jr:w3.heap[w.heap.size]?=some (.stringIter ⟨s.toArray⟩ (pos+n)):=by
      rw [eh.block w.heap.size (by simp;omega) (fun e=>by have:=(gh.lt _ e.symm).1;omega),Lib.alloc_old _ _ _ zg];exact Rc
     go_roundw
     case rel=>
      exact ⟨pos+n,acc++[r],by omega,Jr,by simpa using jl,Fr.grown (Nq.alloc _) eh (fun j hj hlt=>by have:=(gh.lt j hj).1;omega),hV2,Vq,by simp;omega⟩
     case measure=>
      have e1:=HH.out hp;(have e2:w3.iterPos w.heap.size=pos+n:=by simp [World.iterPos,Jr]);simp only [e1,e2];omega
    ·subst hr;go_wp2_with (first|(go_at_call 174;((with_reducible refine (aI (s.drop pos) [239,191,189] _).mono ?_);rintro e w2 ⟨rfl,rfl⟩))|(at_builtin;refine wpList_append_own _ rfl _ _ 249 rfl (w.heap.size+1) 21 i0 (.int .i32 0) 1 4 Tryz.underlying249 hi hz0 hz1 hz2 rfl (by decide) _ _ _ rfl (mq gh ((Fr.refl _ _).alloc _)) ⟨W1.heap.size,0,none⟩ 1 1 [.int .i32 65533] rfl rfl (cell_one_new _ _ _) (by intro u hu;rw [List.mem_singleton] at hu;subst hu;rfl) (by unfold maxLen;omega) (by omega) (by simp;omega) ?_;intro v3 w3 jl eh rP));have Jr:w3.heap[w.heap.size]?=some (.stringIter ⟨s.toArray⟩ (pos+n)):=by
      rw [eh.block w.heap.size (by simp;omega) (fun e=>by have:=(gh.lt _ e.symm).1;omega),Lib.alloc_old _ _ _ zg];exact Rc
     go_roundw
     case rel=>
      exact ⟨pos+n,acc++[65533],by omega,Jr,by simpa using jl,Fr.grown (Nq.alloc _) eh (fun j hj hlt=>by have:=(gh.lt j hj).1;omega),hV2,Vq,by simp;omega⟩
     case measure=>
      have e1:=HH.out hp;(have e2:w3.iterPos w.heap.size=pos+n:=by simp [World.iterPos,Jr]);simp only [e1,e2];omega
  ·obtain rfl:pos=s.length:=by omega
   have ph:¬ s.length<(⟨s.toArray⟩:ByteArray).size:=by rw [Hsz.out];omega
   have uk:∀ ty,(Instr.next (.pointer (some ⟨w.heap.size,0,none⟩)) true ty).run Tryz.prog wr=_:=fun ty=>Lib.run_next_end_at wr w.heap.size ⟨s.toArray⟩ s.length ty hit ph;have hv:Lib.validD s=true:=by rw [HV.out,List.drop_length];rfl
   have hr:acc=jk s:=by have:=HR.out;rw [List.drop_length] at this;simpa [jk,iN] using this
   have Hv:=hd' hv;have Hr:=hd' hr;clear hv hr HV HR;go_wp2_with fail;go_ret2;refine ⟨fun _=>⟨_,rfl,?_,gJ⟩,fun e => ?_⟩
   ·rw [<- Hr.out];exact Jq hown (by omega)
   ·rw [Hv.out] at e;cases e
theorem rQ {B:Nat} (s:Bs) (w:World) (hx:Cx B w) (hs:s.length<=35184372088832) (h:Lib.validD s=true) :
  Calls Tryz.prog 133 #[.string ⟨s.toArray⟩] w fun e w'=>e=.returned (.bool true)/\Fr NoB w w':=by
 have Hv:=hd' h;clear h;go_enter Tryz.func133,Tryz.ntmps133;go_wp2_with (go_at_call 181;((with_reducible refine (vf s _ hx hs).mono ?_);rintro e w1 ⟨h1,-⟩;obtain ⟨v,rfl,-,f1⟩:=h1 Hv.out));go_ret;exact ⟨rfl,f1⟩
theorem xq {B:Nat} (s:Bs) (w:World) (hx:Cx B w) (hs:s.length<=35184372088832) (h:Lib.validD s=false) :
  Calls Tryz.prog 133 #[.string ⟨s.toArray⟩] w fun e w'=>e=.returned (.bool false)/\Fr NoB w w':=by
 have Hv:=hd' h;clear h;go_enter Tryz.func133,Tryz.ntmps133;go_wp2_with (go_at_call 181;((with_reducible refine (vf s _ hx hs).mono ?_);rintro e w1 ⟨-,h1⟩;obtain ⟨p,rfl,f1⟩:=h1 Hv.out;unfold jN));go_ret;exact ⟨rfl,f1⟩
def bg:List Int->Except Int (List Int)
 | []=>.ok []
 | n::r=>
  if n<0\/65535<n then .error 13
  else if 56320<=n/\n<=57343 then .error 14
  else if 55296<=n/\n<=56319 then
   match r with
   | []=>.error 14
   | m::r'=>if m<56320\/57343<m then .error 14 else
    match bg r' with
    | .error e=>.error e
    | .ok l=>.ok ((65536+(n - 55296)*1024+m - 56320)::l)
  else
   match bg r with
   | .error e=>.error e
   | .ok l=>.ok (n::l)
def jQ (acc:List Int) (r:Except Int (List Int)):Except Int (List Int):=
 match r with
 | .error e=>.error e
 | .ok l=>.ok (acc++l)
theorem qh (acc:List Int) (x:Int) (r:Except Int (List Int)):jQ acc (jQ [x] r)=jQ (acc++[x]) r:=by
 cases r<;>simp [jQ]
theorem zh {n:Int} {r:List Int} (h:n<0\/65535<n):bg (n::r)=.error 13:=by cases r<;>simp [bg,h]
theorem zi {n:Int} {r:List Int} (h:56320<=n/\n<=57343):bg (n::r)=.error 14:=by
 have h1:¬ (n<0\/65535<n):=by omega
 cases r<;>simp [bg,h,h1]
theorem Js {n:Int} (h:55296<=n/\n<=56319):bg [n]=.error 14:=by
 have h1:¬ (n<0\/65535<n):=by omega
 have h2:¬ (56320<=n/\n<=57343):=by omega
 simp [bg,h,h1,h2]
theorem pC {n m:Int} {r:List Int} (h:55296<=n/\n<=56319) (hm:m<56320\/57343<m):bg (n::m::r)=.error 14:=by
 have h1:¬ (n<0\/65535<n):=by omega
 have h2:¬ (56320<=n/\n<=57343):=by omega
 simp [bg,h,h1,h2,hm]
theorem vg {n m:Int} {r:List Int} (h:55296<=n/\n<=56319) (hm:56320<=m/\m<=57343):bg (n::m::r)=jQ [65536+(n - 55296)*1024+m - 56320] (bg r):=by
 have h1:¬ (n<0\/65535<n):=by omega
 have h2:¬ (56320<=n/\n<=57343):=by omega
 have h3:¬ (m<56320\/57343<m):=by omega
 simp only [bg,h1,h2,h3,if_false,and_self,h,if_true];cases bg r<;>rfl
theorem rR {n:Int} {r:List Int} (h1:0<=n) (h2:n<55296\/(57343<n/\n<=65535)):bg (n::r)=jQ [n] (bg r):=by
 have k1:¬ (n<0\/65535<n):=by omega
 have k2:¬ (56320<=n/\n<=57343):=by omega
 have k3:¬ (55296<=n/\n<=56319):=by omega
 cases r with
 | nil=>simp only [bg,k1,k2,k3,if_false];rfl
 | cons m r=>simp only [bg,k1,k2,k3,if_false];cases bg (m::r)<;>rfl
def rS (q:Except Int (List Int)) (w:World) (e:Ending) (w':World):Prop:=
 match q with
 | .ok l=>∃ v,e=.returned (.tuple #[v,.nilIface])/\w'.ownsRow w.heap.size 21 1 v l.length (l.map (Value.int .i32))/\Fr NoB w w'
 | .error k=>∃ p:Bs,e=.returned (.tuple #[.slice none 0 0,jN p k])/\Fr NoB w w'
theorem qi {q:Except Int (List Int)} {l:List Int} {w:World} {e:Ending} {w':World} (h:q=.ok l):rS q w e w'=∃ v,e=.returned (.tuple #[v,.nilIface])/\w'.ownsRow w.heap.size 21 1 v l.length (l.map (Value.int .i32))/\Fr NoB w w':=by rw [h];rfl
theorem ct {q:Except Int (List Int)} {k:Int} {w:World} {e:Ending} {w':World} (h:q=.error k):rS q w e w'=∃ p:Bs,e=.returned (.tuple #[.slice none 0 0,jN p k])/\Fr NoB w w':=by rw [h];rfl
theorem rT {B:Nat} (b off cap:Nat) (l:List Int) (w:World) (hx:Cx B w) (hl:l.length<=281474976710) (hb:b<w.heap.size)
  (hc:∀ (j:Nat) (h:j<l.length),w.cell? ⟨b,off+j,none⟩=some (.int .i64 l[j])) :
  Calls Tryz.prog 264 #[.slice (some ⟨b,off,none⟩) l.length cap] w fun e w'=>rS (bg l) w e w':=by
 obtain ⟨i0,hi,hz0,hz1,hz2⟩:=info_parts vd;have HC:=hd' hc;clear hc;go_enter Tryz.func264,Tryz.ntmps264;go_wp2;go_loopw [4,5] (fun v4 v5 wr=>∃ (k:Nat) (acc:List Int),k<=l.length/\v5=.int .i64 k/\wr.ownsRow w.heap.size 21 1 v4 acc.length (acc.map (Value.int .i32))/\Fr NoB w wr/\Hid (jQ acc (bg (l.drop k))=bg l)/\acc.length<=k) (fun _ v5 _=>l.length - (intOf v5).toNat)
 case atStart=>exact ⟨0,[],Nat.zero_le _,rfl,World.ownsRow_nil _ _ _ _,Fr.refl _ _,hd' (by simp only [List.drop_zero];cases bg l<;>rfl),Nat.le_refl _⟩
 case round=>
  obtain ⟨k,acc,hk,rfl,hown,gJ,HJ,My⟩:=hrel;by_cases hlt:k<l.length
  ·have yz:wr.cell? ⟨b,off+k,none⟩=some (.int .i64 l[k]):=(gJ.cell (p:=⟨b,off+k,none⟩) hb (fun e=>e)).trans (HC.out k hlt);have nT:l.drop k=l[k]::l.drop (k+1):=List.drop_eq_getElem_cons hlt;rw [nT] at HJ;generalize l[k]=n at yz HJ;clear nT;by_cases h1:n<0
   ·(have hf:bg l=.error 13:=by rw [<- HJ.out,zh (Or.inl h1)];rfl);have Hf:=hd' hf;clear hf HJ;go_wp2_with (go_at_call 88;((with_reducible refine (ji (B:=B) k 13 _ (hx.eG gJ) (by omega) (by omega)).mono ?_);rintro e w2 ⟨rfl,f2⟩));go_ret2;rw [ct Hf.out];exact ⟨_,rfl,gJ.trans f2⟩
   by_cases h2:65535<n
   ·(have hf:bg l=.error 13:=by rw [<- HJ.out,zh (Or.inr h2)];rfl);have Hf:=hd' hf;clear hf HJ;go_wp2_with (go_at_call 88;((with_reducible refine (ji (B:=B) k 13 _ (hx.eG gJ) (by omega) (by omega)).mono ?_);rintro e w2 ⟨rfl,f2⟩));go_ret2;rw [ct Hf.out];exact ⟨_,rfl,gJ.trans f2⟩
   by_cases h3:56320<=n/\n<=57343
   ·(have hf:bg l=.error 14:=by rw [<- HJ.out,zi h3];rfl);have lz:(n / 1024==55)=true:=beq_iff_eq.2 (by omega);clear h3;have Hf:=hd' hf;clear hf HJ;go_wp2_with (go_at_call 88;((with_reducible refine (ji (B:=B) k 14 _ (hx.eG gJ) (by omega) (by omega)).mono ?_);rintro e w2 ⟨rfl,f2⟩));go_ret2;rw [ct Hf.out];exact ⟨_,rfl,gJ.trans f2⟩
   have lz:(n / 1024==55)=false:=beq_eq_false_iff_ne.2 (by omega);by_cases h4:55296<=n/\n<=56319
   ·have iD:(n / 1024==54)=true:=beq_iff_eq.2 (by omega);by_cases h5:k+1<l.length
    ·have ug:((k:Int)+1==(l.length:Int))=false:=beq_eq_false_iff_ne.2 (by omega);have PQ:wr.cell? ⟨b,off+(k+1),none⟩=some (.int .i64 l[k+1]):=(gJ.cell (p:=⟨b,off+(k+1),none⟩) hb (fun e=>e)).trans (HC.out (k+1) h5);have nT:l.drop (k+1)=l[k+1]::l.drop (k+1+1):=List.drop_eq_getElem_cons h5;rw [nT] at HJ;generalize l[k+1]=m at PQ HJ;clear nT;by_cases h6:m<56320
     ·(have hf:bg l=.error 14:=by rw [<- HJ.out,pC h4 (Or.inl h6)];rfl);clear h3 h4;have Hf:=hd' hf;clear hf HJ;go_wp2_with (go_at_call 88;((with_reducible refine (ji (B:=B) k 14 _ (hx.eG gJ) (by omega) (by omega)).mono ?_);rintro e w2 ⟨rfl,f2⟩));go_ret2;rw [ct Hf.out];exact ⟨_,rfl,gJ.trans f2⟩
     by_cases h7:57343<m
     ·(have hf:bg l=.error 14:=by rw [<- HJ.out,pC h4 (Or.inr h7)];rfl);clear h3 h4;have Hf:=hd' hf;clear hf HJ;go_wp2_with (go_at_call 88;((with_reducible refine (ji (B:=B) k 14 _ (hx.eG gJ) (by omega) (by omega)).mono ?_);rintro e w2 ⟨rfl,f2⟩));go_ret2;rw [ct Hf.out];exact ⟨_,rfl,gJ.trans f2⟩
     have Z8:Hid (jQ (acc++[65536+(n - 55296)*1024+m - 56320]) (bg (l.drop (k+2)))=bg l):=hd' (by rw [<- HJ.out,vg h4 ⟨by omega,by omega⟩,qh]);obtain ⟨h41,h42⟩:=h4;clear HJ h3;go_wp2_with (at_builtin;refine wpList_append_own _ rfl _ _ 249 rfl w.heap.size 21 i0 (.int .i32 0) 1 4 Tryz.underlying249 hi hz0 hz1 hz2 rfl (by decide) _ _ _ rfl (mq hown ((Fr.refl _ _).alloc _)) ⟨wr.heap.size,0,none⟩ 1 1 [.int .i32 (65536+(n - 55296)*1024+m - 56320)] rfl rfl (cell_one_new _ _ _) (by intro u hu;rw [List.mem_singleton] at hu;subst hu;rfl) (by unfold maxLen;omega) (by omega) (by have:=gJ.size;simp;omega) ?_;intro v3 w3 jl eh rP);go_roundw
     case rel=>
      exact ⟨k+2,acc++[65536+(n - 55296)*1024+m - 56320],by omega,by go_num,by simpa using jl,Fr.grown (gJ.alloc _) eh (fun j hj hlt=>by have:=(hown.lt j hj).1;omega),Z8,by simp;omega⟩
     case measure=>simp [intOf];omega
    ·have hf:bg l=.error 14:=by
      rw [<- HJ.out,List.drop_eq_nil_of_le (by omega),Js h4];rfl
     have ug:((k:Int)+1==(l.length:Int))=true:=beq_iff_eq.2 (by omega);clear h3 h4;have Hf:=hd' hf;clear hf HJ;go_wp2_with (go_at_call 88;((with_reducible refine (ji (B:=B) k 14 _ (hx.eG gJ) (by omega) (by omega)).mono ?_);rintro e w2 ⟨rfl,f2⟩));go_ret2;rw [ct Hf.out];exact ⟨_,rfl,gJ.trans f2⟩
   have iD:(n / 1024==54)=false:=beq_eq_false_iff_ne.2 (by omega);have Z8:Hid (jQ (acc++[n]) (bg (l.drop (k+1)))=bg l):=hd' (by rw [<- HJ.out,rR (by omega) (by omega),qh]);clear HJ h3 h4;go_wp2_with (at_builtin;refine wpList_append_own _ rfl _ _ 249 rfl w.heap.size 21 i0 (.int .i32 0) 1 4 Tryz.underlying249 hi hz0 hz1 hz2 rfl (by decide) _ _ _ rfl (mq hown ((Fr.refl _ _).alloc _)) ⟨wr.heap.size,0,none⟩ 1 1 [.int .i32 (n)] rfl rfl (cell_one_new _ _ _) (by intro u hu;rw [List.mem_singleton] at hu;subst hu;rfl) (by unfold maxLen;omega) (by omega) (by have:=gJ.size;simp;omega) ?_;intro v3 w3 jl eh rP);go_roundw
   case rel=>
    exact ⟨k+1,acc++[n],by omega,by go_num,by simpa using jl,Fr.grown (gJ.alloc _) eh (fun j hj hlt=>by have:=(hown.lt j hj).1;omega),Z8,by simp;omega⟩
   case measure=>simp [intOf];omega
  ·obtain rfl:k=l.length:=by omega
   have hf:bg l=.ok acc:=by rw [<- HJ.out,List.drop_length];simp [bg,jQ]
   have Hf:=hd' hf;clear hf HJ;go_wp2_with fail;go_ret2;rw [qi Hf.out];exact ⟨_,rfl,hown,gJ⟩
def lg (l:List Int):Bs:=l.flatMap Lib.encodeRune
theorem Rf (n:Int):Utf8.encode n=⟨(Lib.encodeRune n).toArray⟩:=by
 apply ByteArray.ext;by_cases hn:0<=n
 ·obtain ⟨r,rfl⟩:=Int.eq_ofNat_of_zero_le hn;by_cases hb:(55296<=r/\r<=57343)\/1114111<r
  ·have v:Utf8.valid (r:Int)=false:=by simp [Utf8.valid];omega
   rw [Lib.encodeRune,Lib.encodeRuneZ_bad (by omega)];simp [Utf8.encode,v,Utf8.runeError]
  ·have v:Utf8.valid (r:Int)=true:=by simp [Utf8.valid];omega
   by_cases c1:r<128
   ·rw [Lib.encodeRune,Lib.encodeRuneZ_one (by omega) (by omega)];simp [Utf8.encode,v,c1]
   by_cases c2:r<2048
   ·rw [Lib.encodeRune,Lib.encodeRuneZ_two (by omega) (by omega)];(have e0:(192+(r:Int) / 64:Int).toNat=192+r / 64:=by omega);(have e1:(128+(r:Int) % 64:Int).toNat=128+r % 64:=by omega);simp only [List.map_cons,List.map_nil,e0,e1];simp [Utf8.encode,v,c1,c2];try exact ⟨rfl,rfl⟩
   by_cases c3:r<65536
   ·rw [Lib.encodeRune,Lib.encodeRuneZ_three (by omega)];(have e0:(224+(r:Int) / 4096:Int).toNat=224+r / 4096:=by omega);(have e1:(128+(r:Int) / 64 % 64:Int).toNat=128+r / 64 % 64:=by omega);(have e2:(128+(r:Int) % 64:Int).toNat=128+r % 64:=by omega);simp only [List.map_cons,List.map_nil,e0,e1,e2];simp [Utf8.encode,v,c1,c2,c3];try exact ⟨rfl,rfl⟩
   ·rw [Lib.encodeRune,Lib.encodeRuneZ_four (by omega) (by omega)];(have e0:(240+(r:Int) / 262144:Int).toNat=240+r / 262144:=by omega);(have e1:(128+(r:Int) / 4096 % 64:Int).toNat=128+r / 4096 % 64:=by omega);(have e2:(128+(r:Int) / 64 % 64:Int).toNat=128+r / 64 % 64:=by omega);(have e3:(128+(r:Int) % 64:Int).toNat=128+r % 64:=by omega);simp only [List.map_cons,List.map_nil,e0,e1,e2,e3];simp [Utf8.encode,v,c1,c2,c3]
 ·have v:Utf8.valid n=false:=by simp [Utf8.valid];omega
  rw [Lib.encodeRune,Lib.encodeRuneZ_bad (by omega)];simp [Utf8.encode,v,Utf8.runeError]
theorem Vr (l:List Int):runesBytes l=⟨(lg l).toArray⟩:=by
 have:∀ (l:List Int) (acc:Bs),l.foldl (fun r n=>r++Utf8.encode n) (⟨acc.toArray⟩:ByteArray)=⟨(acc++lg l).toArray⟩:=by
  intro l;induction l with
  | nil=>intro acc;simp [lg]
  | cons n r ih=>
   intro acc;rw [List.foldl_cons,Rf];have:(⟨acc.toArray⟩:ByteArray)++⟨(Lib.encodeRune n).toArray⟩=⟨(acc++Lib.encodeRune n).toArray⟩:=by
    apply ByteArray.ext;rw [ByteArray.data_append];simp
   rw [this,ih];simp [lg]
 have h:=this l [];rw [List.nil_append] at h;exact h
theorem Jt {w:World} {base:Nat} {v:Value} {rs:List Int} (ho:w.ownsRow base 21 1 v rs.length (rs.map (Value.int .i32))) :
  (convert 249 9 v).run Tryz.prog w=.ok (.string ⟨(lg rs).toArray⟩) w:=by
 have hcell:=@World.ownsRow.cells _ _ _ _ _ _ _ ho;rcases ho.2 with ⟨rfl,h0⟩|⟨g,cap,cur,rfl,hg,hh,h1⟩
 ·obtain rfl:rs=[]:=List.eq_nil_of_length_eq_zero h0;exact run_convert_runes_nil w 249 9 21 0 0 Tryz.underlying249 Tryz.underlying21 Tryz.underlying9
 ·have hc:=hcell (g:=g) rfl;rw [run_convert_runes w 249 9 21 ⟨g,0,none⟩ rs.length cap rs (Nat.le_refl _) Tryz.underlying249 Tryz.underlying21 Tryz.underlying9 (fun j hj=>hc j _ (by simp [List.getD,hj])),List.take_length,Vr]
theorem oq {B:Nat} (b off cap:Nat) (l rs:List Int) (w:World) (hx:Cx B w) (hl:l.length<=281474976710) (hb:b<w.heap.size)
  (hc:∀ (j:Nat) (h:j<l.length),w.cell? ⟨b,off+j,none⟩=some (.int .i64 l[j])) (hj:bg l=.ok rs) :
  Calls Tryz.prog 245 #[.slice (some ⟨b,off,none⟩) l.length cap] w fun e w'=>e=.returned (.tuple #[.string ⟨(lg rs).toArray⟩,.int .i64 0])/\Fr NoB w w':=by
 have HC:=hd' hc;have HJ:=hd' hj;clear hc hj
 set_option maxRecDepth 100000 in
 go_enter Tryz.func245,Tryz.ntmps245;go_wp2_with (go_at_call 264;((with_reducible refine (rT b off cap l _ hx hl hb HC.out).mono ?_);rintro e w1 h1;rw [qi HJ.out] at h1;obtain ⟨v,rfl,ho,f1⟩:=h1;have iE:=Jt ho;clear ho));go_ret2;exact ⟨rfl,f1⟩
theorem ot {B:Nat} (b off cap:Nat) (l:List Int) (k:Int) (w:World) (hx:Cx B w) (hl:l.length<=281474976710) (hb:b<w.heap.size)
  (hc:∀ (j:Nat) (h:j<l.length),w.cell? ⟨b,off+j,none⟩=some (.int .i64 l[j])) (hj:bg l=.error k) :
  Calls Tryz.prog 245 #[.slice (some ⟨b,off,none⟩) l.length cap] w fun e w'=>e=.returned (.tuple #[.string ⟨#[]⟩,.int .i64 k])/\Fr NoB w w':=by
 have HC:=hd' hc;have HJ:=hd' hj;clear hc hj;go_enter Tryz.func245,Tryz.ntmps245;go_wp2_with (first|(go_at_call 264;((with_reducible refine (rT b off cap l _ hx hl hb HC.out).mono ?_);rintro e w1 h1;rw [ct HJ.out] at h1;obtain ⟨p,rfl,f1⟩:=h1;unfold jN))|(go_at_call 54;((with_reducible refine (rK _ k _ (hx.eG f1)).mono ?_);rintro e w2 ⟨rfl,f2⟩)));go_ret2;exact ⟨rfl,f1.trans f2⟩
theorem DT {w:World} {g base:Nat} {T:TypeId} {x:Value} (h:Blk w g T #[x]) (hb:base<=g):w.ownsRow base T 1 (.slice (some ⟨g,0,none⟩) 1 1) 1 [x]:=by
 refine ⟨rfl,Or.inr ⟨g,1,#[x],rfl,hb,h,Nat.le_refl _,by unfold maxLen;omega,rfl,rfl⟩⟩
theorem rU:(Tryz.prog.info? 3).map (fun i=>(i.zero,i.size,i.bytes))=some (some (.int .i64 0),1,8):=by kernel_rfl
theorem kK (c:UInt8):if kE c≠0 then ∃ k:Nat,k<8/\Lib.indexByte [34,92,47,98,102,110,114,116] c=(k:Int)/\(([34,92,47,8,12,10,13,9]:Bs).drop k).take 1=[kE c] else Lib.indexByte [34,92,47,98,102,110,114,116] c = -1:=by
 have:=eF (p:=fun c=>if kE c≠0 then decide (0<=Lib.indexByte [34,92,47,98,102,110,114,116] c)&&decide ((Lib.indexByte [34,92,47,98,102,110,114,116] c).toNat<8)&&((([34,92,47,8,12,10,13,9]:Bs).drop (Lib.indexByte [34,92,47,98,102,110,114,116] c).toNat).take 1==[kE c]) else Lib.indexByte [34,92,47,98,102,110,114,116] c == -1) (by decide +kernel) c;by_cases h:kE c≠0
 ·simp only [h,ne_eq,not_false_eq_true,if_true,Bool.and_eq_true,decide_eq_true_eq,beq_iff_eq] at this ⊢;exact ⟨(Lib.indexByte [34,92,47,98,102,110,114,116] c).toNat,this.1.2,by omega,this.2⟩
 ·simp only [h,if_false,beq_iff_eq] at this ⊢;exact this
theorem Nt (s:Bs) (i j:Nat):((⟨s.toArray⟩:ByteArray).extract i j)=⟨((s.drop i).take (j - i)).toArray⟩:=by
 apply ByteArray.ext;rw [ByteArray.data_extract];simp
theorem B7 (b:Nat) (s:Bs) (w:World) (h:Rd w b s) (hl:s.length<=65536) (qP:1<s.length) (he:kE s[1]≠0) :
  Calls Tryz.prog 212 #[.pointer (some ⟨b,0,none⟩)] w fun e w'=>e=.returned (.string ⟨#[kE s[1]]⟩)/\rW w b (s.drop 2) w':=by
 have ht:=kK s[1];rw [if_pos he] at ht;obtain ⟨k,hk,hi,hv⟩:=ht;have hc:=h.cell;have hz:=h.frozen;have hex:((⟨#[34,92,47,8,12,10,13,9]⟩:ByteArray).extract k (k+1))=⟨#[kE s[1]]⟩:=by
  have:=Nt [34,92,47,8,12,10,13,9] k (k+1);rw [show k+1 - k=1 by omega,hv] at this;exact this
 have hg:=aM s;have hx:=iu s;have Hi:=hd' hi;clear hi hv;go_enter Tryz.func212,Tryz.ntmps212;go_wp2_with (first|(go_at_call 130;((with_reducible refine (aA _ _ _ (by first|rfl|(simp;omega))).mono ?_);rintro e w2 ⟨rfl,rfl⟩))|(go_at_call 87;((with_reducible refine (bq [34,92,47,98,102,110,114,116] _ _).mono ?_);rintro e w2 ⟨rfl,rfl⟩;simp only [Int.toNat_natCast,Nat.toUInt8_eq,UInt8.ofNat_toNat];rw [Hi.out])));go_ret;exact ⟨rfl,(Fr.refl _ w).only _,h.set _⟩
theorem Fx (b:Nat) (s:Bs) (w:World) (h:Rd w b s) (qP:¬ 1<s.length) :
  Calls Tryz.prog 212 #[.pointer (some ⟨b,0,none⟩)] w fun e w'=>e=Wr 90/\Fr (Only b) w w':=by
 have hc:=h.cell;go_enter Tryz.func212,Tryz.ntmps212;go_wp2_with (go_at_call 130;((with_reducible refine (aE _ _ _ (by simp;omega)).mono ?_);rintro e w2 ⟨rfl,rfl⟩));exact ⟨rfl,rfl,Fr.refl _ _⟩
theorem Ju {B:Nat} (g:Nat) (n:Int) (w:World) (hx:Cx B w) (hb:Blk w g 3 #[.int .i64 n]) (rs:List Int) (hj:bg [n]=.ok rs) :
  Calls Tryz.prog 245 #[.slice (some ⟨g,0,none⟩) 1 1] w fun e w'=>e=.returned (.tuple #[.string ⟨(lg rs).toArray⟩,.int .i64 0])/\Fr NoB w w':=
 oq g 0 1 [n] rs w hx (by simp) hb.lt (fun j h=>by
  obtain rfl:j=0:=by simp at h;exact h
  exact hb.cell 0) hj
theorem zl {B:Nat} (g:Nat) (n k:Int) (w:World) (hx:Cx B w) (hb:Blk w g 3 #[.int .i64 n]) (hj:bg [n]=.error k) :
  Calls Tryz.prog 245 #[.slice (some ⟨g,0,none⟩) 1 1] w fun e w'=>e=.returned (.tuple #[.string ⟨#[]⟩,.int .i64 k])/\Fr NoB w w':=
 ot g 0 1 [n] k w hx (by simp) hb.lt (fun j h=>by
  obtain rfl:j=0:=by simp at h;exact h
  exact hb.cell 0) hj
theorem mr {w:World} {base g cap:Nat} {n m:Int} (ho:w.ownsRow base 3 1 (.slice (some ⟨g,0,none⟩) 2 cap) 2 [.int .i64 n,.int .i64 m]) :
  g<w.heap.size/\∀ (j:Nat) (h:j < [n,m].length),w.cell? ⟨g,0+j,none⟩=some (.int .i64 [n,m][j]):=by
 refine ⟨(ho.lt g rfl).2,fun j h => ?_⟩;have hc:=@World.ownsRow.cells _ _ _ _ _ _ _ ho g rfl;have:j=0\/j=1:=by simp at h;omega
 rcases this with rfl|rfl
 ·exact hc 0 _ rfl
 ·exact hc 1 _ rfl
theorem Jw {B:Nat} (base g cap:Nat) (n m:Int) (w:World) (hx:Cx B w) (ho:w.ownsRow base 3 1 (.slice (some ⟨g,0,none⟩) 2 cap) 2 [.int .i64 n,.int .i64 m]) (rs:List Int) (hj:bg [n,m]=.ok rs) :
  Calls Tryz.prog 245 #[.slice (some ⟨g,0,none⟩) 2 cap] w fun e w'=>e=.returned (.tuple #[.string ⟨(lg rs).toArray⟩,.int .i64 0])/\Fr NoB w w':=
 oq g 0 cap [n,m] rs w hx (by simp) (mr ho).1 (mr ho).2 hj
theorem zm {B:Nat} (base g cap:Nat) (n m k:Int) (w:World) (hx:Cx B w) (ho:w.ownsRow base 3 1 (.slice (some ⟨g,0,none⟩) 2 cap) 2 [.int .i64 n,.int .i64 m]) (hj:bg [n,m]=.error k) :
  Calls Tryz.prog 245 #[.slice (some ⟨g,0,none⟩) 2 cap] w fun e w'=>e=.returned (.tuple #[.string ⟨#[]⟩,.int .i64 k])/\Fr NoB w w':=
 ot g 0 cap [n,m] k w hx (by simp) (mr ho).1 (mr ho).2 hj
theorem Jy {s t:Bs} {n:Nat} (h:eL s=some (n,t)):n<65536:=by
 rw [rX] at h;split at h
 ·rename_i hc
  cases h;have:=pD ((s.drop 2).take 4) 4 (by have:=hc.2.1;simp at this ⊢;omega) (by omega) hc.2.2;rwa [List.take_take] at this
 ·cases h
theorem Nu {B:Nat} (b:Nat) (s r:Bs) (n:Nat) (w:World) (hx:Cx B w) (hB:B<=b) (h:Rd w b s) (hl:s.length<=65536) (qP:1<s.length) (he:kE s[1]=0) (hu:eL s=some (n,r)) (hn:n<55296\/57343<n) :
  Calls Tryz.prog 212 #[.pointer (some ⟨b,0,none⟩)] w fun e w'=>e=.returned (.string ⟨(Lib.encodeRune (n:Int)).toArray⟩)/\rW w b r w':=by
 have ht:=kK s[1];rw [if_neg (by simpa using he)] at ht;have hc:=h.cell;have hg:=aM s;have Hi:=hd' ht;have hn6:=Jy hu;have hj:bg [(n:Int)]=.ok [(n:Int)]:=by rw [rR (by omega) (by omega)];rfl
 have HJ:=hd' hj;have HU:=hd' hu;clear ht hu he hj;have Jz:lg [(n:Int)]=Lib.encodeRune (n:Int):=by simp [lg]
 have HE:=hd' Jz;clear Jz;rcases hn with hn|hn
 all_goals
  go_enter Tryz.func212,Tryz.ntmps212;go_wp2_with (first|(go_at_call 130;((with_reducible refine (aA _ _ _ (by first|rfl|(simp;omega))).mono ?_);rintro e w2 ⟨rfl,rfl⟩))|(go_at_call 87;((with_reducible refine (bq [34,92,47,98,102,110,114,116] _ _).mono ?_);rintro e w2 ⟨rfl,rfl⟩;simp only [Int.toNat_natCast,Nat.toUInt8_eq,UInt8.ofNat_toNat];rw [Hi.out]))|(go_at_call 244;((with_reducible refine (jm b s r n _ h hl HU.out).mono ?_);rintro e w1 ⟨rfl,f1,r1⟩;have Mu:=hd' ((hx.fr f1 (fun k e=>by rw [show k=b from e];exact hB)).eG ((Fr.refl NoB w1).alloc (.cells #[.int .i64 (n:Int)] 3)));have og:=hd' (Blk.new w1 3 #[.int .i64 (n:Int)])))|(go_at_call 245;((with_reducible refine (Ju w1.heap.size (n:Int) _ Mu.out og.out _ HJ.out).mono ?_);rintro e w3 ⟨rfl,f3⟩;rw [HE.out])));go_ret;exact ⟨rfl,(f1.alloc _).trans f3.cT,(r1.fr ((Fr.refl NoB w1).alloc _) (fun e=>e)).fr f3 (fun e=>e)⟩
theorem Nv {B:Nat} (b:Nat) (s r:Bs) (n:Nat) (w:World) (hx:Cx B w) (hB:B<=b) (h:Rd w b s) (hl:s.length<=65536) (qP:1<s.length) (he:kE s[1]=0) (hu:eL s=some (n,r)) (hn:56320<=n/\n<=57343) :
  Calls Tryz.prog 212 #[.pointer (some ⟨b,0,none⟩)] w fun e w'=>e=Wr 90/\Fr (Only b) w w':=by
 have ht:=kK s[1];rw [if_neg (by simpa using he)] at ht;have hc:=h.cell;have hg:=aM s;have Hi:=hd' ht;have hj:bg [(n:Int)]=.error 14:=zi (by omega);have HJ:=hd' hj;have HU:=hd' hu;clear ht hu he hj;obtain ⟨Bq,uI⟩:=hn;go_enter Tryz.func212,Tryz.ntmps212;go_wp2_with (first|(go_at_call 130;first|((with_reducible refine (aA (decide _) _ _ (by first|rfl|(simp;omega))).mono ?_);rintro e w2 ⟨rfl,rfl⟩)|((with_reducible refine (gj _ _).mono ?_);rintro e w2 ⟨rfl,rfl⟩))|(go_at_call 87;((with_reducible refine (bq [34,92,47,98,102,110,114,116] _ _).mono ?_);rintro e w2 ⟨rfl,rfl⟩;simp only [Int.toNat_natCast,Nat.toUInt8_eq,UInt8.ofNat_toNat];rw [Hi.out]))|(go_at_call 244;((with_reducible refine (jm b s r n _ h hl HU.out).mono ?_);rintro e w1 ⟨rfl,f1,r1⟩;have Mu:=hd' ((hx.fr f1 (fun k e=>by rw [show k=b from e];exact hB)).eG ((Fr.refl NoB w1).alloc (.cells #[.int .i64 (n:Int)] 3)));have og:=hd' (Blk.new w1 3 #[.int .i64 (n:Int)])))|(go_at_call 245;((with_reducible refine (zl w1.heap.size (n:Int) 14 _ Mu.out og.out HJ.out).mono ?_);rintro e w3 ⟨rfl,f3⟩)));exact ⟨rfl,rfl,(f1.alloc _).trans f3.cT⟩
theorem JA {B:Nat} (b:Nat) (s:Bs) (w:World) (_hx:Cx B w) (h:Rd w b s) (hl:s.length<=65536) (qP:1<s.length) (he:kE s[1]=0) (hu:eL s=none) :
  Calls Tryz.prog 212 #[.pointer (some ⟨b,0,none⟩)] w fun e w'=>e=Wr 90/\Fr (Only b) w w':=by
 have ht:=kK s[1];rw [if_neg (by simpa using he)] at ht;have hc:=h.cell;have hg:=aM s;have Hi:=hd' ht;have HU:=hd' hu;clear ht hu he;go_enter Tryz.func212,Tryz.ntmps212;go_wp2_with (first|(go_at_call 130;((with_reducible refine (aA _ _ _ (by first|rfl|(simp;omega))).mono ?_);rintro e w2 ⟨rfl,rfl⟩))|(go_at_call 87;((with_reducible refine (bq [34,92,47,98,102,110,114,116] _ _).mono ?_);rintro e w2 ⟨rfl,rfl⟩;simp only [Int.toNat_natCast,Nat.toUInt8_eq,UInt8.ofNat_toNat];rw [Hi.out]))|(go_at_call 244;((with_reducible refine (DU b s _ h hl HU.out).mono ?_);rintro e w1 ⟨rfl,f1⟩)));exact ⟨rfl,rfl,f1.cT⟩
theorem JB {B:Nat} (b:Nat) (s r:Bs) (n:Nat) (w:World) (hx:Cx B w) (hB:B<=b) (h:Rd w b s) (hl:s.length<=65536) (qP:1<s.length) (he:kE s[1]=0) (hu:eL s=some (n,r)) (hn:55296<=n/\n<=56319) (zo:eL r=none) :
  Calls Tryz.prog 212 #[.pointer (some ⟨b,0,none⟩)] w fun e w'=>e=Wr 90/\Fr (Only b) w w':=by
 have ht:=kK s[1];rw [if_neg (by simpa using he)] at ht;have hc:=h.cell;have hg:=aM s;have Hi:=hd' ht;have HU:=hd' hu;have JC:=kd hu;have Nw:r.length<=65536:=by omega
 obtain ⟨i0,jv,hz0,hz1,hz2⟩:=info_parts rU;have xr:True:=trivial;have zr:True:=trivial;have QW:=hd' zo;clear ht hu he zo;obtain ⟨Bq,uI⟩:=hn;go_enter Tryz.func212,Tryz.ntmps212;go_wp2_with (first|(go_at_call 130;((with_reducible refine (aA _ _ _ (by first|rfl|(simp;omega))).mono ?_);rintro e w2 ⟨rfl,rfl⟩))|(go_at_call 87;((with_reducible refine (bq [34,92,47,98,102,110,114,116] _ _).mono ?_);rintro e w2 ⟨rfl,rfl⟩;simp only [Int.toNat_natCast,Nat.toUInt8_eq,UInt8.ofNat_toNat];rw [Hi.out]))|(go_at_call 244;have _t:=xr;((with_reducible refine (jm b s r n _ h hl HU.out).mono ?_);rintro e w1 ⟨rfl,f1,r1⟩;have Vt:=r1.fr ((Fr.refl NoB w1).alloc (.cells #[.int .i64 (n:Int)] 3)) (fun e=>e);have mN:=(hx.fr f1 (fun k e=>by rw [show k=b from e];exact hB));clear xr))|(go_at_call 244;have _t:=zr;((with_reducible refine (DU b r _ Vt Nw QW.out).mono ?_);rintro e w2 ⟨rfl,f2⟩;clear zr)));exact ⟨rfl,rfl,(f1.alloc _).trans f2.cT⟩
theorem vh {w:World} {base:Nat} {v:Value} {xs:List Value} {T:TypeId} (h:w.ownsRow base T 1 v (1+1) xs):∃ g cap,v=.slice (some ⟨g,0,none⟩) 2 cap/\base<=g:=by
 rcases h.2 with ⟨_,h0⟩|⟨g,cap,cur,hv,hg,_⟩
 ·omega
 ·exact ⟨g,cap,hv,hg⟩
theorem JD {B:Nat} (b:Nat) (s r:Bs) (n:Nat) (w:World) (hx:Cx B w) (hB:B<=b) (h:Rd w b s) (hl:s.length<=65536) (qP:1<s.length) (he:kE s[1]=0) (hu:eL s=some (n,r)) (hn:55296<=n/\n<=56319) (r2:Bs) (m:Nat) (zo:eL r=some (m,r2)) (hm:56320<=m/\m<=57343) :
  Calls Tryz.prog 212 #[.pointer (some ⟨b,0,none⟩)] w fun e w'=>e=.returned (.string ⟨(Lib.encodeRune (65536+((n:Int) - 55296)*1024+m - 56320)).toArray⟩)/\rW w b r2 w':=by
 have ht:=kK s[1];rw [if_neg (by simpa using he)] at ht;have hc:=h.cell;have hg:=aM s;have Hi:=hd' ht;have HU:=hd' hu;have JC:=kd hu;have Nw:r.length<=65536:=by omega
 obtain ⟨i0,jv,hz0,hz1,hz2⟩:=info_parts rU;have xr:True:=trivial;have zr:True:=trivial;have QW:=hd' zo;have hj:bg [(n:Int),(m:Int)]=.ok [65536+((n:Int) - 55296)*1024+m - 56320]:=by rw [vg (by omega) (by omega)];rfl
 have HJ:=hd' hj;have Jz:lg [65536+((n:Int) - 55296)*1024+m - 56320]=Lib.encodeRune (65536+((n:Int) - 55296)*1024+m - 56320):=by simp [lg]
 have HE:=hd' Jz;clear ht hu he zo hj Jz;obtain ⟨Bq,uI⟩:=hn;go_enter Tryz.func212,Tryz.ntmps212;go_wp2_with (first|(go_at_call 130;((with_reducible refine (aA _ _ _ (by first|rfl|(simp;omega))).mono ?_);rintro e w2 ⟨rfl,rfl⟩))|(go_at_call 87;((with_reducible refine (bq [34,92,47,98,102,110,114,116] _ _).mono ?_);rintro e w2 ⟨rfl,rfl⟩;simp only [Int.toNat_natCast,Nat.toUInt8_eq,UInt8.ofNat_toNat];rw [Hi.out]))|(go_at_call 244;have _t:=xr;((with_reducible refine (jm b s r n _ h hl HU.out).mono ?_);rintro e w1 ⟨rfl,f1,r1⟩;have Vt:=r1.fr ((Fr.refl NoB w1).alloc (.cells #[.int .i64 (n:Int)] 3)) (fun e=>e);have mN:=(hx.fr f1 (fun k e=>by rw [show k=b from e];exact hB));clear xr))|(go_at_call 244;have _t:=zr;((with_reducible refine (jm b r r2 m _ Vt Nw QW.out).mono ?_);rintro e w2 ⟨rfl,f2,Z9⟩;have bn:=f2.blk (Blk.new w1 3 #[.int .i64 (n:Int)]) (fun e=>by have:=r1.lt;have e':w1.heap.size=b:=e;omega);have Bp:=(mN.eG ((Fr.refl NoB w1).alloc (.cells #[.int .i64 (n:Int)] 3))).fr f2 (fun k e=>by rw [show k=b from e];exact hB);have Hbn:=hd' bn;clear bn zr))|(at_builtin;refine wpList_append_own _ rfl _ _ 160 rfl w1.heap.size 3 i0 (.int .i64 0) 1 8 Tryz.underlying160 jv hz0 hz1 hz2 rfl (by decide) (.slice (some ⟨w1.heap.size,0,none⟩) 1 1) 1 [.int .i64 (n:Int)] rfl (mq (DT Hbn.out (Nat.le_refl _)) ((Fr.refl _ _).alloc _)) ⟨w2.heap.size,0,none⟩ 1 1 [.int .i64 (m:Int)] rfl rfl (cell_one_new _ _ _) (by intro u hu;rw [List.mem_singleton] at hu;subst hu;rfl) (by unfold maxLen;omega) (by omega) (by have:=f2.size;simp at this;simp;omega) ?_;intro v3 w3 jl eh rP;clear rP));obtain ⟨g3,c3,yT,YF⟩:=vh jl;subst yT;have F3:=Fr.grown (S:=Only w1.heap.size) (Fr.refl _ _) eh (fun j hj _=>by
  have e:some w1.heap.size=some j:=hj;injection e with e
  exact e.symm)
 have FW:=Fr.grown (((f1.alloc _).trans f2).alloc _) eh (fun j hj hlt=>by
  have e:some w1.heap.size=some j:=hj;injection e with e
  have:=f1.size;exact absurd hlt (by omega))
 have r3:=(Z9.fr ((Fr.refl NoB w2).alloc (.cells #[.int .i64 (m:Int)] 3)) (fun e=>e)).fr F3 (fun e=>by
  have:=r1.lt;have e':b=w1.heap.size:=e;omega)
 have hx3:=(Bp.eG ((Fr.refl NoB w2).alloc (.cells #[.int .i64 (m:Int)] 3))).fr F3 (fun k e=>by
  rw [show k=w1.heap.size from e];exact mN.le)
 have aB:w3.ownsRow w1.heap.size 3 1 (.slice (some ⟨g3,0,none⟩) 2 c3) 2 [.int .i64 (n:Int),.int .i64 (m:Int)]:=jl;have HO:=hd' aB;clear eh F3 jl aB;go_wp2_with (first|(go_at_call 130;((with_reducible refine (aA _ _ _ (by first|rfl|(simp;omega))).mono ?_);rintro e w2 ⟨rfl,rfl⟩))|(go_at_call 245;((with_reducible refine (Jw w1.heap.size g3 c3 (n:Int) (m:Int) _ hx3 HO.out _ HJ.out).mono ?_);rintro e w4 ⟨rfl,f4⟩;rw [HE.out])));go_ret;exact ⟨rfl,FW.trans f4.cT,r3.fr f4 (fun e=>e)⟩
theorem Nx {B:Nat} (b:Nat) (s r:Bs) (n:Nat) (w:World) (hx:Cx B w) (hB:B<=b) (h:Rd w b s) (hl:s.length<=65536) (qP:1<s.length) (he:kE s[1]=0) (hu:eL s=some (n,r)) (hn:55296<=n/\n<=56319) (r2:Bs) (m:Nat) (zo:eL r=some (m,r2)) (hm:m<56320\/57343<m) :
  Calls Tryz.prog 212 #[.pointer (some ⟨b,0,none⟩)] w fun e w'=>e=Wr 90/\Fr (Only b) w w':=by
 have ht:=kK s[1];rw [if_neg (by simpa using he)] at ht;have hc:=h.cell;have hg:=aM s;have Hi:=hd' ht;have HU:=hd' hu;have JC:=kd hu;have Nw:r.length<=65536:=by omega
 obtain ⟨i0,jv,hz0,hz1,hz2⟩:=info_parts rU;have xr:True:=trivial;have zr:True:=trivial;have QW:=hd' zo;have hj:bg [(n:Int),(m:Int)]=.error 14:=pC (by omega) (by omega);have HJ:=hd' hj;clear ht hu he zo hj;obtain ⟨Bq,uI⟩:=hn;go_enter Tryz.func212,Tryz.ntmps212;go_wp2_with (first|(go_at_call 130;first|((with_reducible refine (aA (decide _) _ _ (by first|rfl|(simp;omega))).mono ?_);rintro e w2 ⟨rfl,rfl⟩)|((with_reducible refine (gj _ _).mono ?_);rintro e w2 ⟨rfl,rfl⟩))|(go_at_call 87;((with_reducible refine (bq [34,92,47,98,102,110,114,116] _ _).mono ?_);rintro e w2 ⟨rfl,rfl⟩;simp only [Int.toNat_natCast,Nat.toUInt8_eq,UInt8.ofNat_toNat];rw [Hi.out]))|(go_at_call 244;have _t:=xr;((with_reducible refine (jm b s r n _ h hl HU.out).mono ?_);rintro e w1 ⟨rfl,f1,r1⟩;have Vt:=r1.fr ((Fr.refl NoB w1).alloc (.cells #[.int .i64 (n:Int)] 3)) (fun e=>e);have mN:=(hx.fr f1 (fun k e=>by rw [show k=b from e];exact hB));clear xr))|(go_at_call 244;have _t:=zr;((with_reducible refine (jm b r r2 m _ Vt Nw QW.out).mono ?_);rintro e w2 ⟨rfl,f2,Z9⟩;have bn:=f2.blk (Blk.new w1 3 #[.int .i64 (n:Int)]) (fun e=>by have:=r1.lt;have e':w1.heap.size=b:=e;omega);have Bp:=(mN.eG ((Fr.refl NoB w1).alloc (.cells #[.int .i64 (n:Int)] 3))).fr f2 (fun k e=>by rw [show k=b from e];exact hB);have Hbn:=hd' bn;clear bn zr))|(at_builtin;refine wpList_append_own _ rfl _ _ 160 rfl w1.heap.size 3 i0 (.int .i64 0) 1 8 Tryz.underlying160 jv hz0 hz1 hz2 rfl (by decide) (.slice (some ⟨w1.heap.size,0,none⟩) 1 1) 1 [.int .i64 (n:Int)] rfl (mq (DT Hbn.out (Nat.le_refl _)) ((Fr.refl _ _).alloc _)) ⟨w2.heap.size,0,none⟩ 1 1 [.int .i64 (m:Int)] rfl rfl (cell_one_new _ _ _) (by intro u hu;rw [List.mem_singleton] at hu;subst hu;rfl) (by unfold maxLen;omega) (by omega) (by have:=f2.size;simp at this;simp;omega) ?_;intro v3 w3 jl eh rP;clear rP));obtain ⟨g3,c3,yT,YF⟩:=vh jl;subst yT;have F3:=Fr.grown (S:=Only w1.heap.size) (Fr.refl _ _) eh (fun j hj _=>by
  have e:some w1.heap.size=some j:=hj;injection e with e
  exact e.symm)
 have FW:=Fr.grown (((f1.alloc _).trans f2).alloc _) eh (fun j hj hlt=>by
  have e:some w1.heap.size=some j:=hj;injection e with e
  have:=f1.size;exact absurd hlt (by omega))
 have r3:=(Z9.fr ((Fr.refl NoB w2).alloc (.cells #[.int .i64 (m:Int)] 3)) (fun e=>e)).fr F3 (fun e=>by
  have:=r1.lt;have e':b=w1.heap.size:=e;omega)
 have hx3:=(Bp.eG ((Fr.refl NoB w2).alloc (.cells #[.int .i64 (m:Int)] 3))).fr F3 (fun k e=>by
  rw [show k=w1.heap.size from e];exact mN.le)
 have aB:w3.ownsRow w1.heap.size 3 1 (.slice (some ⟨g3,0,none⟩) 2 c3) 2 [.int .i64 (n:Int),.int .i64 (m:Int)]:=jl;have HO:=hd' aB;clear eh F3 jl aB;go_wp2_with (first|(go_at_call 130;((with_reducible refine (gj _ _).mono ?_);rintro e w2 ⟨rfl,rfl⟩))|(go_at_call 245;((with_reducible refine (zm w1.heap.size g3 c3 (n:Int) (m:Int) 14 _ hx3 HO.out HJ.out).mono ?_);rintro e w4 ⟨rfl,f4⟩)));exact ⟨rfl,rfl,FW.trans f4.cT⟩
def JE (q:Option (Bs×Bs)) (b:Nat) (w:World) (e:Ending) (w':World):Prop:=
 match q with
 | some (t,r)=>e=.returned (.string ⟨t.toArray⟩)/\rW w b r w'
 | none=>e=Wr 90/\Fr (Only b) w w'
theorem zt {B:Nat} (b:Nat) (s:Bs) (w:World) (hx:Cx B w) (hB:B<=b) (h:Rd w b s) (hl:s.length<=65536) :
  Calls Tryz.prog 212 #[.pointer (some ⟨b,0,none⟩)] w (JE (nj s) b w):=by
 by_cases qP:1<s.length
 ·obtain ⟨x,c,r,rfl⟩:∃ x c r,s=x::c::r:=by
   match s,qP with
   | [],h=>simp at h
   | [_],h=>simp at h
   | x::c::r,_=>exact ⟨x,c,r,rfl⟩
  by_cases he:kE c≠0
  ·have e:nj (x::c::r)=some ([kE c],r):=by simp [nj,he]
   rw [e];exact B7 b (x::c::r) w h hl qP he
  ·have Rg:kE c=0:=by simpa using he
   have e:nj (x::c::r)=I5 (x::c::r):=by simp [nj,Rg]
   rw [e];unfold I5;cases hu:eL (x::c::r) with
   | none=>exact JA b _ w hx h hl qP Rg hu
   | some p=>
    obtain ⟨n,r1⟩:=p;simp only;by_cases hn:0xd800<=n/\n<=0xdbff
    ·rw [if_pos hn];cases zo:eL r1 with
     | none=>exact JB b _ r1 n w hx hB h hl qP Rg hu hn zo
     | some p=>
      obtain ⟨m,r2⟩:=p;simp only;by_cases hm:0xdc00<=m/\m<=0xdfff
      ·rw [if_pos hm];refine (JD b _ r1 n w hx hB h hl qP Rg hu hn r2 m zo hm).mono fun e w' hq => ?_;(have ee:((65536+(n - 55296)*1024+(m - 56320):Nat):Int)=65536+((n:Int) - 55296)*1024+m - 56320:=by omega);simp only [JE,ee];exact hq
      ·rw [if_neg hm];exact Nx b _ r1 n w hx hB h hl qP Rg hu hn r2 m zo (by omega)
    ·rw [if_neg hn];by_cases cN:0xdc00<=n/\n<=0xdfff
     ·rw [if_pos cN];exact Nv b _ r1 n w hx hB h hl qP Rg hu cN
     ·rw [if_neg cN];exact Nu b _ r1 n w hx hB h hl qP Rg hu (by omega)
 ·have e:nj s=none:=by
   match s,qP with
   | [],_=>rfl
   | [_],_=>rfl
   | x::c::r,h=>simp at h
  rw [e];exact Fx b s w h qP
theorem Ny {f:Nat} {t acc:Bs} (h:0<t.length):kF (f+1) t acc=if t[0]<32 then none else if t[0]=34 then (if Lib.validD acc then some (acc,blanks (t.drop 1)) else none) else if t[0]=92 then (match nj t with|none=>none|some (b,r')=>kF f r' (acc++b)) else kF f (t.drop 1) (acc++[t[0]]):=by
 cases t with
 | nil=>simp at h
 | cons c r=>rfl
theorem Rh {t:Bs} {c:UInt8} (h:0<t.length) (hc:t[0]=c):Lib.hasPrefix t [c]=true:=by
 cases t with
 | nil=>simp at h
 | cons d r=>simp at hc;subst hc;simp [Lib.hasPrefix,List.isPrefixOf]
theorem PZ {a b:UInt8}:a<b ↔ a.toNat<b.toNat:=UInt8.lt_iff_toNat_lt
def JF (w:World) (b:Nat) (q:Option (Bs×Bs)) (gk:Nat) (wr:World):Prop:=
 ∃ t acc:Bs,Rd wr b t/\Bd wr w.heap.size w.heap.size acc/\Fr (Only b) w wr/\kF gk t acc=q/\t.length<gk/\acc.length+4*t.length<=262144
theorem rY {B:Nat} (b:Nat) (s:Bs) (w:World) (hx:Cx B w) (hB:B<=b) (h:Rd w b s) (hl:s.length<=65536) :
  Calls Tryz.prog 175 #[.pointer (some ⟨b,0,none⟩)] w (JE (gM s) b w):=by
 have ou:=h.lt;have f0:Fr NoB w (w.alloc (.cells #[.pointer none,.slice none 0 0] 93)):=(Fr.refl _ _).alloc _;have h0:=h.fr f0 (fun e=>e);have hc:=h0.cell;have hz:=h0.frozen;have Fk:=Bd.new w;by_cases hp:Lib.hasPrefix s [34]=true
 ·obtain ⟨r,rfl⟩:∃ r,s=34::r:=by
   unfold Lib.hasPrefix at hp;cases s with
   | nil=>simp at hp
   | cons c r=>simp [List.isPrefixOf] at hp;exact ⟨r,by rw [hp]⟩
  have hq:gM (34::r)=kF ((34::r:Bs).length) r []:=by simp [gM]
  rw [hq];have hsz:(w.setCell ⟨b,0,none⟩ (.string ⟨r.toArray⟩)).heap.size=w.heap.size:=by simp [World.setCell]
  have fs:Fr (Only b) w (w.setCell ⟨b,0,none⟩ (.string ⟨r.toArray⟩)):=(Fr.refl _ w).only _;have r1:=(h.set r).fr ((Fr.refl NoB _).alloc (.cells #[.pointer none,.slice none 0 0] 93)) (fun e=>e);have bd1:=Bd.new (w.setCell ⟨b,0,none⟩ (.string ⟨r.toArray⟩));rw [hsz] at bd1;have Hst:=hd' (show JF w b (kF ((34::r:Bs).length) r []) ((34::r:Bs).length) ((w.setCell ⟨b,0,none⟩ (.string ⟨r.toArray⟩)).alloc (.cells #[.pointer none,.slice none 0 0] 93)) from ⟨r,[],r1,bd1,fs.alloc _,rfl,by simp,by simp at hl ⊢;omega⟩);generalize kF ((34::r:Bs).length) r []=q at Hst;clear hq r1 bd1 fs Fk h hsz;go_enter Tryz.func175,Tryz.ntmps175;go_wp2_with (first|(go_at_call 211;((with_reducible refine (eT (34::r) [34] _ rfl).mono ?_);rintro e w1 ⟨rfl,rfl⟩))|(go_at_call 130;((with_reducible refine (ov _ _).mono ?_);rintro e w2 ⟨rfl,rfl⟩)));go_loopg [] ((34::r:Bs).length) (fun gk wr=>JF w b q gk wr)
  case atStart=>exact Hst.out
  case round=>
   clear Hst;obtain ⟨t,acc,hr,hb,hf,hq,Bm,My⟩:=hrel;obtain ⟨f,rfl⟩:∃ f,gk=f+1:=⟨gk - 1,by omega⟩;have yt:=hx.fr hf (fun k e=>by rw [show k=b from e];exact hB);have ju:=hf.size;have hc:=hr.cell;have hz:=hr.frozen;have Hq:=hd' hq;clear hq;by_cases ht:0<t.length
   ·have hg:=aM t;have hxd:=iu t;have hne:t.isEmpty=false:=by cases t with|nil=>simp at ht|cons c r=>rfl
    have Q6:(t==[])=false:=by cases t with|nil=>simp at ht|cons c r=>rfl
    have hq':=Hq.out;rw [Ny ht] at hq';clear Hq;by_cases c1:t[0]<32
    ·rw [if_pos c1] at hq';subst hq';have c1':t[0].toNat<32:=PZ.1 c1;clear c1;go_wp2_with (go_at_call 130;((with_reducible refine (aE _ _ _ (by first|rfl|(simp;omega))).mono ?_);rintro e w2 ⟨rfl,rfl⟩));exact ⟨rfl,rfl,hf⟩
    rw [if_neg c1] at hq';(have c1':32<=t[0].toNat:=by have:=mt PZ.2 c1;have e:(32:UInt8).toNat=32:=rfl;omega);by_cases c2:t[0]=34
    ·rw [if_pos c2] at hq';(have aag:((t[0].toNat:Int)==34)=true:=by rw [c2];rfl);have Ri:=hd' (Rh ht c2);have zu:True:=trivial;clear c1 c2;have HQ:=hd' hq';clear hq';cases hv:Lib.validD acc
     ·(have e:q=none:=by rw [<- HQ.out,hv];rfl);subst e;have HV:=hd' hv;clear hv HQ;go_wp2_with (first|(go_at_call 130;((with_reducible refine (aA (decide _) _ _ (by first|rfl|(simp;omega))).mono ?_);rintro e w9 ⟨rfl,rfl⟩))|(go_at_call 130;((with_reducible refine (gj _ _).mono ?_);rintro e w9 ⟨rfl,rfl⟩))|(go_at_call 61;((with_reducible refine (ef _ _ acc _ hb ju).mono ?_);rintro e w1 ⟨rfl,b1,o1⟩;have F1:=hf.behind o1.1 (Nat.le_refl _);have X1:=yt.fr o1.1 (fun k e=>by have e':w.heap.size<=k:=e;have:=hx.le;omega)))|(go_at_call 133;((with_reducible refine (xq acc _ X1 (by omega) HV.out).mono ?_);rintro e w2 ⟨rfl,f2⟩)));exact ⟨rfl,rfl,F1.trans f2.cT⟩
     ·(have e:q=some (acc,blanks (t.drop 1)):=by rw [<- HQ.out,hv];rfl);subst e;have HV:=hd' hv;clear hv HQ;go_wp2_with (first|(go_at_call 130;((with_reducible refine (aA (decide _) _ _ (by first|rfl|(simp;omega))).mono ?_);rintro e w9 ⟨rfl,rfl⟩))|(go_at_call 130;((with_reducible refine (ov _ _).mono ?_);rintro e w9 ⟨rfl,rfl⟩))|(go_at_call 61;have _t:=zu;((with_reducible refine (ef _ _ acc _ hb ju).mono ?_);rintro e w1 ⟨rfl,b1,o1⟩;have F1:=hf.behind o1.1 (Nat.le_refl _);have X1:=yt.fr o1.1 (fun k e=>by have e':w.heap.size<=k:=e;have:=hx.le;omega);have R1:=hr.fr o1.1 (fun e=>by have e':w.heap.size<=b:=e;omega);clear zu))|(go_at_call 133;((with_reducible refine (rQ acc _ X1 (by omega) HV.out).mono ?_);rintro e w2 ⟨rfl,f2⟩;have R2:=R1.fr f2 (fun e=>e);have B2:=b1.fr f2 (fun k hk e=>e)))|(go_at_call 176;((with_reducible refine (eU b t [34] _ R2 Ri.out).mono ?_);rintro e w3 ⟨rfl,f3,r3⟩;have B3:=B2.fr f3 (fun k hk e=>by have e':k=b:=e;omega);have S3:w.heap.size<=w3.heap.size:=Nat.le_trans ju (Nat.le_trans o1.1.size (Nat.le_trans f2.size f3.size))))|(go_at_call 61;((with_reducible refine (ef _ _ acc _ B3 S3).mono ?_);rintro e w4 ⟨rfl,b4,o4⟩)));go_ret;exact ⟨rfl,((F1.trans f2.cT).trans f3).behind o4.1 (Nat.le_refl _),r3.fr o4.1 (fun e=>by have e':w.heap.size<=b:=e;omega)⟩
    rw [if_neg c2] at hq';have aag:((t[0].toNat:Int)==34)=false:=jE 34 (by omega) c2;by_cases c3:t[0]=92
    ·rw [if_pos c3] at hq';(have aah:((t[0].toNat:Int)==92)=true:=by rw [c3];rfl);have HQ:=hd' hq';clear c1 c2 c3 hq';have Uo:=zt b t wr yt hB hr (by omega);cases he:nj t with
     | none=>
      rw [he] at Uo;(have e:q=none:=by rw [<- HQ.out,he]);subst e;have HES:=hd' Uo;clear Uo HQ he;go_wp2_with (first|(go_at_call 130;((with_reducible refine (aA (decide _) _ _ (by first|rfl|(simp;omega))).mono ?_);rintro e w9 ⟨rfl,rfl⟩))|(go_at_call 212;((with_reducible refine HES.out.mono ?_);rintro e w1 ⟨rfl,f1⟩)));exact ⟨rfl,rfl,hf.trans f1⟩
     | some p=>
      obtain ⟨e1,r1⟩:=p;rw [he] at Uo;have hle:=rZ he;(have ub:kF f r1 (acc++e1)=q:=by rw [<- HQ.out,he]);have HES:=hd' Uo;have DV:=hd' ub;clear Uo HQ he ub;go_wp2_with (first|(go_at_call 130;((with_reducible refine (aA (decide _) _ _ (by first|rfl|(simp;omega))).mono ?_);rintro e w9 ⟨rfl,rfl⟩))|(go_at_call 212;((with_reducible refine HES.out.mono ?_);rintro e w1 ⟨rfl,f1,rd1⟩;have B1:=hb.fr f1 (fun k hk e=>by have e':k=b:=e;omega);have S1:w.heap.size<=w1.heap.size:=Nat.le_trans ju f1.size))|(go_at_call 62;((with_reducible refine (kZ _ _ acc e1 _ B1 (by omega) S1).mono ?_);rintro e w2 ⟨rfl,b2,o2⟩)));go_roundg f
      case measure=>omega
      case rel=>exact ⟨r1,acc++e1,rd1.fr o2.1 (fun e=>by have e':w.heap.size<=b:=e;omega),b2,(hf.trans f1).behind o2.1 (Nat.le_refl _),DV.out,by omega,by simp;omega⟩
    rw [if_neg c3] at hq';have aah:((t[0].toNat:Int)==92)=false:=jE 92 (by omega) c3;have HQ:=hd' hq';clear c1 c2 c3 hq';go_wp2_with (first|(go_at_call 130;((with_reducible refine (aA (decide _) _ _ (by first|rfl|(simp;omega))).mono ?_);rintro e w9 ⟨rfl,rfl⟩))|(go_at_call 102;((with_reducible refine (ur _ _ acc t[0] _ hb (by omega) ju).mono ?_);rintro e w2 ⟨rfl,b2,o2⟩;have R2:=hr.fr o2.1 (fun e=>by have e':w.heap.size<=b:=e;omega);have c2:=R2.cell;have z2:=R2.frozen)));go_roundg f
    case measure=>omega
    case rel=>exact ⟨t.drop 1,acc++[t[0]],by have:=R2.set (t.drop 1);simpa using this,b2.fr ((Fr.refl (Only b) _).only _) (fun k hk e=>by have e':k=b:=e;omega),(hf.behind o2.1 (Nat.le_refl _)).only _,HQ.out,by simp;omega,by simp;omega⟩
   ·obtain rfl:t=[]:=List.eq_nil_of_length_eq_zero (by omega);(have e:q=none:=by rw [<- Hq.out];rfl);subst e;go_wp2_with (go_at_call 130;((with_reducible refine (gj _ _).mono ?_);rintro e w2 ⟨rfl,rfl⟩));exact ⟨rfl,rfl,hf⟩
 ·have ph:Lib.hasPrefix s [34]=false:=by simpa using hp
  have e:gM s=none:=by
   unfold Lib.hasPrefix at ph;cases s with
   | nil=>rfl
   | cons c r=>simp [List.isPrefixOf] at ph;simp [gM];intro e;exact absurd e.symm ph
  rw [e];clear e hp Fk;go_enter Tryz.func175,Tryz.ntmps175;go_wp2_with (first|(go_at_call 211;((with_reducible refine (kL s [34] _ ph).mono ?_);rintro e w1 ⟨rfl,rfl⟩))|(go_at_call 130;((with_reducible refine (gj _ _).mono ?_);rintro e w2 ⟨rfl,rfl⟩)));exact ⟨rfl,rfl,f0.cT⟩
open Go.RowKit Go.Shelf
attribute [local go_sem] Oper.semAt_some
def Nz (n₀:Nat) (W:World) (sv:Value) (zs:List Bs):Prop:=
 (∃ a c,sv=.slice a 0 c/\zs=[])\/∃ b off cap,sv=.slice (some ⟨b,off,none⟩) zs.length cap/\b<n₀/\∀ j,j<zs.length->W.cell? ⟨b,off+j,none⟩=some (sV (zs[j]?.getD []))
theorem Nz.below {n₀:Nat} {A B:World} (h:Below n₀ A B) {sv:Value} {zs:List Bs}:Nz n₀ A sv zs->Nz n₀ B sv zs
 | .inl e=>.inl e
 | .inr ⟨b,off,cap,e,hb,hc⟩=>.inr ⟨b,off,cap,e,hb,fun j hj=>(h.cell (p:=⟨b,off+j,none⟩) hb).trans (hc j hj)⟩
theorem xu (zs:List Bs) {k:Nat} (h:k<zs.length):zs.take (k+1)=zs.take k++[zs[k]?.getD []]:=by
 rw [List.take_add_one];simp [h]
theorem B8 (F:Fence) (n:Nat) (h7:F.fn 218) (hro:F.round=none) (hn:1<=n) (l lh n₀ b off cap:Nat) (zs:List Bs) (JG:zs.length*16<=140737488351232) (hb:b<n₀) (J Jx:List Bs->World->Prop)
  (hY:∀ pre x W,J pre W->pre.length<zs.length->YieldAt F (n - 1) Tryz.prog l #[sV x] W fun e W'=>
   (e=.returned (.bool true)/\J (pre++[x]) W'/\Below n₀ W W')\/(e=.returned (.bool false)/\Jx (pre++[x]) W'))
  (W:World) (hBs:W.cell? ⟨lh,0,none⟩=some (.slice (some ⟨b,off,none⟩) zs.length cap)) (hc:∀ j,j<zs.length->W.cell? ⟨b,off+j,none⟩=some (sV (zs[j]?.getD []))) (h0:J [] W) :
  CallsIn F n Tryz.prog 218 #[.func (.yield l) #[] #[],.pointer (some ⟨lh,0,none⟩)] W fun e W'=>(∃ v,e=.returned v) /\
   ((∃ ys,ys=zs/\J ys W')\/(∃ pre,pre <+: zs/\Jx pre W')):=by
 refine callsIn_of_wp Tryz.func218 rfl h7 ?_ hro;simp only [Tryz.ntmps218,List.size_toArray,List.length_cons,List.length_nil,Nat.reduceAdd,Nat.reduceSub,Array.replicate_succ,Array.replicate_zero,List.push_toArray,List.append_toArray,List.nil_append,List.cons_append]
 gi_wp2
 gi_loopw [7] (fun i wr=>∃ k:Nat,k<=zs.length/\i=.int .i64 k/\J (zs.take k) wr/\Below n₀ W wr)
  (fun i _=>zs.length - (intOf i).toNat)
 case atStart=>exact ⟨0,Nat.zero_le _,rfl,h0,Below.refl _ _⟩
 case round=>
  obtain ⟨k,hk,rfl,YG,uk⟩:=hrel;by_cases hlt:k<zs.length
  ·have Rj:wr.cell? ⟨b,off+k,none⟩=some (sV (zs[k]?.getD [])):=(uk.cell (p:=⟨b,off+k,none⟩) hb).trans (hc k hlt);have Rk:=xu zs hlt;generalize zs[k]?.getD []=x at Rj Rk;obtain ⟨fn,tmps,assign,body,hy,hR⟩:=hY _ x wr YG (by simp;omega);clear hc hY
   gi_wp2
   refine hR.mono ?_;rintro e W3 (⟨rfl,hJ3,hk3⟩|⟨rfl,aak⟩)
   ·gi_wp2
    go_roundw
    case rel=>exact ⟨k+1,by omega,by simp,by rw [Rk];exact hJ3,uk.trans hk3⟩
    case measure=>simp [intOf];omega
   ·gi_wp2
    refine bodyPost_ret (results_none rfl _ _ _) rfl ?_;exact ⟨⟨_,rfl⟩,.inr ⟨zs.take (k+1),List.take_prefix _ _,by rw [Rk];exact aak⟩⟩
  ·obtain rfl:k=zs.length:=by omega
   clear hc hY
   gi_wp2
   go_end0;exact ⟨⟨_,rfl⟩,.inl ⟨zs,rfl,by simpa using YG⟩⟩
theorem r9 (F:Fence) (n:Nat) (h7:F.fn 218) (hro:F.round=none) (l lh c:Nat) (a:Option Addr) (J:List Bs->World->Prop) (W:World) (hBs:W.cell? ⟨lh,0,none⟩=some (.slice a 0 c)) (h0:J [] W) :
  CallsIn F n Tryz.prog 218 #[.func (.yield l) #[] #[],.pointer (some ⟨lh,0,none⟩)] W fun e W'=>(∃ v,e=.returned v)/\J [] W':=by
 refine callsIn_of_wp Tryz.func218 rfl h7 ?_ hro;simp only [Tryz.ntmps218,List.size_toArray,List.length_cons,List.length_nil,Nat.reduceAdd,Nat.reduceSub,Array.replicate_succ,Array.replicate_zero,List.push_toArray,List.append_toArray,List.nil_append,List.cons_append]
 gi_wp2
 gi_loopw [7] (fun i wr=>i=.int .i64 0/\J [] wr) (fun _ _=>0)
 case atStart=>exact ⟨rfl,h0⟩
 case round=>
  obtain ⟨rfl,YG⟩:=hrel
  gi_wp2
  go_end0;exact ⟨⟨_,rfl⟩,YG⟩
theorem Fy (F:Fence) (n:Nat) (h5:F.fn 183) (hro:F.round=none) (a:Option Addr) (len cap:Nat) (w:World) :
  CallsIn F n Tryz.prog 183 #[.slice a len cap] w fun e w'=>e=.returned (.func (.func 218) #[] #[.pointer (some ⟨w.heap.size,0,none⟩)])/\w'=w.alloc (.cells #[.slice a len cap] 29):=by
 refine callsIn_of_wp Tryz.func183 rfl h5 ?_ hro;simp only [Tryz.ntmps183,List.size_toArray,List.length_cons,List.length_nil,Nat.reduceAdd,Nat.reduceSub,Array.replicate_succ,Array.replicate_zero,List.push_toArray,List.append_toArray,List.nil_append,List.cons_append]
 gi_wp2
 go_ret;exact ⟨rfl,rfl⟩
theorem xw (F:Fence) (n:Nat) (h7:F.fn 218) (hro:F.round=none) (hn:1<=n) (lh n₀:Nat) (sv:Value) (zs:List Bs) (JG:zs.length*16<=140737488351232) (w:World) (hBs:lh<w.heap.size) (mY:n₀<=w.heap.size)
  (hc:w.cell? ⟨lh,0,none⟩=some sv) (hI:Nz n₀ w sv zs) :
  SeqStopsK F n Tryz.prog 218 #[.pointer (some ⟨lh,0,none⟩)] (fun x:Bs => #[sV x]) (Below n₀) (fun ys=>ys=zs) (fun pre=>pre <+: zs) zs.length w:=fun l J Jx W hW _ _ hY h0=>by
 have hc':=(hW.cell (p:=⟨lh,0,none⟩) hBs).trans hc;rcases hI.below (hW.mono mY) with ⟨a,c,rfl,rfl⟩|⟨b,off,cap,rfl,hb,hcs⟩
 ·exact (r9 F n h7 hro l lh c a J W hc' h0).mono fun e W' ⟨he,hj⟩=>⟨he,.inl ⟨_,rfl,hj⟩⟩
 ·exact B8 F n h7 hro hn l lh n₀ b off cap zs JG hb J Jx hY W hc' hcs h0
attribute [local go_sem] Oper.semAt_some
theorem Fz:(Tryz.prog.info? 9).map (fun i=>(i.zero,i.size,i.bytes))=some (some (.string ⟨#[]⟩),1,16):=by kernel_rfl
theorem xy (F:Fence) (n:Nat) (h3:F.fn 248) (h5:F.fn 218) (hro:F.round=none) (hn:3<=n) (sb n₀:Nat) (sv:Value) (zs:List Bs) (hlen:zs.length<=maxLen) (dM:zs.length*16<=140737488351232) (w:World) (Rl:sb<w.heap.size) (mY:n₀<=w.heap.size)
  (hc0:w.cell? ⟨sb,0,none⟩=some sv) (hL:Nz n₀ w sv zs) :
  CallsIn F n Tryz.prog 248 #[.slice none 0 0,.func (.func 218) #[] #[.pointer (some ⟨sb,0,none⟩)]] w fun e W'=>∃ v,e=.returned v/\W'.ownsRow w.heap.size 9 1 v zs.length (zs.map sV)/\Below w.heap.size w W':=by
 have h1:1<=n:=by omega
 obtain ⟨i0,hi,hz0,hz1,hz2⟩:=info_parts Fz;refine callsIn_of_wp_marks Tryz.func248 rfl h3 ?_ hro;simp only [Tryz.ntmps248,List.size_toArray,List.length_cons,List.length_nil,Nat.reduceAdd,Nat.reduceSub,Array.replicate_succ,Array.replicate_zero,List.push_toArray,List.append_toArray,List.nil_append,List.cons_append]
 gi_wp2
 have bO:=Boxed.new w 29 (.slice none 0 0);have NA:Below w.heap.size w (w.alloc (.cells #[.slice none 0 0] 29)):=(Below.refl _ w).alloc (Nat.le_refl _) _;refine wpIn_rangeFunc_ownG hro h1 (gf:=218) (lb := #[.pointer (some ⟨sb,0,none⟩)]) rfl h5 (enters_of Tryz.func218 (by kernel_rfl) rfl)
  (xw F (n - 1) h5 hro (by omega) sb n₀ sv zs dM _ (by simp;omega) (by simp;omega) ((NA.cell (p:=⟨sb,0,none⟩) Rl).trans hc0) (hL.below (NA.mono mY))) belowK_t (belowK_b (by simp;omega)) (Below.refl _ _) (fun _=>rfl)
  (fun pre W=>(∃ v,Boxed W w.heap.size 29 v/\W.ownsRow w.heap.size 9 1 v pre.length (pre.map sV)/\True)/\Below w.heap.size w W)
  (fun _ _ _=>False)
  (OwnFrom.and (Own.from (holdsRow_own w.heap.size w.heap.size 29 9 1 (fun pre:List Bs=>pre.length) (fun pre=>pre.map sV) (fun _ _=>True)) _) (ownFrom_below (Nat.le_refl _) (by simp)))
  (fun _ _ _ _ _ hs _ _=>hs)
  ⟨⟨_,bO,World.ownsRow_nil _ _ _ _,trivial⟩,NA⟩
  (fun x=>{ tmps := #[.slice none 0 0,.func (.func 218) #[] #[.pointer (some ⟨sb,0,none⟩)],.pointer (some ⟨w.heap.size,0,none⟩),undef,.slice none 0 0,sV x,.func (.func 218) #[] #[.pointer (some ⟨sb,0,none⟩)],sV x,undef,undef,undef,undef,undef],defers:=[] }) ?assign ?body ?done ?stop
 case assign=>
  intro l x W K hK
  gi_wp2
  exact hK
 case body=>
  rintro l pre x W ⟨⟨v,hv,dX,_⟩,hB⟩ hlt;have hc:=hv.cell
  gi_wp2_with (gi_at_builtin;refine wpListIn_append_own _ rfl _ _ 29 rfl w.heap.size 9 i0 (.string ⟨#[]⟩) 1 16 Tryz.underlying29 hi hz0 hz1 hz2 rfl (by decide) _ _ _ rfl (dX.alloc _) ⟨W.heap.size,0,none⟩ 1 1 [sV x] rfl rfl (cell_one_new _ _ _) (by simp [Value.oneCell']) (by omega) (by omega) (by have:=hB.size;simp;omega) ?_;intro v' w1 lI mX _;obtain ⟨g',cap',rfl⟩:=ownsRow_succ lI;obtain ⟨MF,hv2,ud,Rm,iD⟩:=hv.appended (by decide) dX hB.size (Nat.le_refl _) lI mX;have hc1:=MF.cell;have qM:=MF.frozen)
  exact ⟨Rm.from _,iD.mono mY,⟨_,hv2,by simpa using ud,trivial⟩,hB.trans iD⟩
 case done=>
  rintro D ys W hD rfl ⟨⟨v,hv,dX,_⟩,hB⟩ hK;have hc:=hv.cell
  gi_wp2
  refine ⟨by simp,.inl ⟨_,_,rfl,run_takeDeferred hK,?_⟩⟩;exact ⟨_,results_tmp rfl _ _ _,v,rfl,ownsRow_putObj dX _ hK rfl,hB.trans (belowK_b (w:=w) (Nat.le_refl _) W D _ _ (by simp at hD;omega) hK rfl rfl)⟩
 case stop=>
  rintro D c pre W _ _ h _;exact h.elim
theorem Ca (F:Fence) (n:Nat) (h2:F.fn 216) (h3:F.fn 248) (h5:F.fn 218) (hro:F.round=none) (hn:4<=n) (sb n₀:Nat) (sv:Value) (zs:List Bs) (hlen:zs.length<=maxLen) (dM:zs.length*16<=140737488351232) (w:World) (Rl:sb<w.heap.size) (mY:n₀<=w.heap.size)
  (hc0:w.cell? ⟨sb,0,none⟩=some sv) (hL:Nz n₀ w sv zs) :
  CallsIn F n Tryz.prog 216 #[.func (.func 218) #[] #[.pointer (some ⟨sb,0,none⟩)]] w fun e W'=>∃ v,e=.returned v/\W'.ownsRow w.heap.size 9 1 v zs.length (zs.map sV)/\Below w.heap.size w W':=by
 have h1:1<=n:=by omega
 refine callsIn_of_wp Tryz.func216 rfl h2 ?_ hro;simp only [Tryz.ntmps216,List.size_toArray,List.length_cons,List.length_nil,Nat.reduceAdd,Nat.reduceSub,Array.replicate_succ,Array.replicate_zero,List.push_toArray,List.append_toArray,List.nil_append,List.cons_append]
 gi_wp2_with (gi_at_call 248;refine (xy F (n - 1) h3 h5 hro (by omega) sb n₀ sv zs hlen dM _ Rl mY hc0 hL).mono ?_;rintro e w' ⟨v,rfl,dX,hb⟩)
 go_ret;exact ⟨v,rfl,dX,hb⟩
def eV (q:Pr) (b:Nat) (w:World) (e:Ending) (w':World):Prop:=
 match q with
 | .ok (j,r)=>∃ v,e=.returned v/\qD w.heap.size w' j v/\rW w b r w'
 | .error n=>e=Wr n/\Fr (Only b) w w'
theorem ke {lo:Nat} {w:World} (k i:Int) (t:Bs) (hk:IntOk k) (hi:IntOk i) (ht:t.length<=big):qD lo w (.mk k i t [] []) (jV k i t (.slice none 0 0) (.slice none 0 0)):=
 ⟨.slice none 0 0,.slice none 0 0,[],fun _=>False,rfl,hk,hi,ht,by simp,⟨by simp,by simp⟩,World.ownsRow_nil _ _ _ _,World.ownsRow_nil _ _ _ _,by simp [aq],fun _ h=>h.elim⟩
theorem pE:∀ (f:Nat) (s acc t r:Bs),kF f s acc=some (t,r)->t.length<=acc.length+4*s.length
 | 0,s,acc,t,r,h=>by cases h
 | f+1,[],acc,t,r,h=>by cases h
 | f+1,c::u,acc,t,r,h=>by
  have hs:kF (f+1) (c::u) acc=if c<32 then none else if c=34 then (if Lib.validD acc then some (acc,blanks u) else none) else if c=92 then (match nj (c::u) with|none=>none|some (b,r')=>kF f r' (acc++b)) else kF f u (acc++[c]):=rfl
  rw [hs] at h;split at h
  ·cases h
  ·split at h
   ·split at h
    ·cases h;omega
    ·cases h
   ·split at h
    ·cases he:nj (c::u) with
     | none=>rw [he] at h;cases h
     | some p=>
      obtain ⟨b,r'⟩:=p;rw [he] at h;have ih:=pE f _ _ _ _ h;have hr:=rZ he;simp at hr ih ⊢;omega
    ·have ih:=pE f _ _ _ _ h;simp at ih ⊢;omega
theorem sc {s t r:Bs} (hl:s.length<=65536) (h:gM s=some (t,r)):t.length<=262144:=by
 unfold gM at h;split at h
 ·cases h
 ·rename_i c u
  split at h
  ·have:=pE _ _ _ _ _ h;simp at this hl;omega
  ·cases h
theorem eu {s:Bs} {c:UInt8}:Lib.hasPrefix s [c]=true ↔ s.head?=some c:=by
 unfold Lib.hasPrefix;cases s with
 | nil=>simp
 | cons d r=>simp [List.isPrefixOf];exact eq_comm
theorem se {B:Nat} (d:Nat) (b:Nat) (s:Bs) (n:Int) (w:World) (hx:Cx B w) (hB:B<=b) (h:Rd w b s) (hl:s.length<=65536) (hh:s.head?=some 34) :
  Calls Tryz.prog 129 #[.pointer (some ⟨b,0,none⟩),.int .i64 n] w (eV (aD d s) b w):=by
 have hq:aD d s=(match gM s with|none=>.error 90|some (t,r)=>.ok (.mk 4 0 t [] [],r)):=by
  unfold aD;rw [hh];rfl
 rw [hq];have f0:Fr NoB w (w.alloc (.cells #[.int .i64 0,.int .i64 0,.string ⟨#[]⟩,.slice none 0 0,.slice none 0 0] 31)):=(Fr.refl _ _).alloc _;have r0:=h.fr f0 (fun e=>e);have hc:=r0.cell;have Hp:=hd' (eu.2 hh);have cj:=rY b s _ (hx.eG f0) hB r0 hl;cases ht:gM s with
 | none=>
  rw [ht] at cj;have HS:=hd' cj;clear cj hq ht;go_enter Tryz.func129,Tryz.ntmps129;go_wp2_with (first|(go_at_call 174;((with_reducible refine (aI s [34] _).mono ?_);rintro e w1 ⟨rfl,rfl⟩;rw [Hp.out]))|(go_at_call 175;((with_reducible refine HS.out.mono ?_);rintro e w1 ⟨rfl,f1⟩)));exact ⟨rfl,rfl,f0.cT.trans f1⟩
 | some p=>
  obtain ⟨t,r⟩:=p;rw [ht] at cj;have HS:=hd' cj;have HT:Hid (t.length<=262144):=hd' (sc hl ht);clear cj hq ht;go_enter Tryz.func129,Tryz.ntmps129;go_wp2_with (first|(go_at_call 174;((with_reducible refine (aI s [34] _).mono ?_);rintro e w1 ⟨rfl,rfl⟩;rw [Hp.out]))|(go_at_call 175;((with_reducible refine HS.out.mono ?_);rintro e w1 ⟨rfl,f1,r1⟩;have g1:=f1.blk (Blk.new w 31 zj) (fun e=>by have e':w.heap.size=b:=e;have:=h.lt;omega)))|(refine wpList_store_row rfl 31 _ _ rfl w.heap.size #[.int .i64 4,.int .i64 0,.string ⟨t.toArray⟩,.slice none 0 0,.slice none 0 0] rfl rfl 31 zj g1 ah rfl (bU _ _ _ _ _ _ _ _ _) ?_));have gB:=g1.setRow #[.int .i64 4,.int .i64 0,.string ⟨t.toArray⟩,.slice none 0 0,.slice none 0 0];have fB:=(f0.cT.trans f1).setRow w.heap.size #[.int .i64 4,.int .i64 0,.string ⟨t.toArray⟩,.slice none 0 0,.slice none 0 0] (Or.inl (Nat.le_refl _));have rB:=r1.fr (Fr.eE w1 w.heap.size #[.int .i64 4,.int .i64 0,.string ⟨t.toArray⟩,.slice none 0 0,.slice none 0 0]) (fun e=>by have e':b=w.heap.size:=e;have:=h.lt;omega);exact bodyPost_ret (v:=jV 4 0 t (.slice none 0 0) (.slice none 0 0)) (bG rfl _ _ w.heap.size _ _ _ _ _ rfl gB) rfl ⟨_,rfl,ke 4 0 t (by unfold IntOk;omega) (by unfold IntOk;omega) (by have:=HT.out;unfold big;omega),fB,rB⟩
end Go.Proofs.YtbifjamddbpcjaaGreatDoor
