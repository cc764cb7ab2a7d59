/- The document's base64url: bit, Base64. -/
import Derived.Test.YtbifjamddbpcjaaGreatDoorRs
import Derived.Test.YtbifjamddbpcjaaGreatDoorNa
namespace Go.Proofs.YtbifjamddbpcjaaGreatDoor
set_option maxRecDepth 100000
set_option maxHeartbeats 25600000
open Go.RowKit
theorem and1_i64 (n:Nat) (h:n<9223372036854775808):bits .and .i64 (n:Int) 1=((n % 2:Nat):Int):=by
 have:=and_i64 n 1 h (by omega)
 rw [Nat.and_one_is_mod] at this
 exact this
theorem and1_end {c res:Nat} {w:World} (d:Nat) (h:res=c / d % 2) (hc:c<2 ^ 8):Ending.returned (.int .i64 (bits .and .i64 ((c:Int) / (d:Int)) 1))=.returned (.int .i64 (res:Int))∧w=w:=by
 refine ⟨?_,rfl⟩
 rw [h,← Int.natCast_ediv,and1_i64 _ (Nat.lt_of_le_of_lt (Nat.div_le_self _ _) (by omega))]
theorem bitAt_of {s:Bs} {k q r:Nat} (h:¬ 8*s.length≤k) (hq:q=k / 8) (hr:r=k % 8) (hl:q<s.length):bitAt s k=s[q].toNat / 2 ^ (7 - r) % 2:=by
 unfold bitAt
 rw [if_neg h,← hq,← hr,List.getD_eq_getElem?_getD,List.getElem?_eq_getElem hl];rfl
theorem dbit_any (s:Bs) (k:Nat) (w:World) (hl:s.length≤4398046511104) (hk:k≤140737488355328) :
  Calls Tryz.prog 68 #[.string ⟨s.toArray⟩,.int .i64 k] w fun e w'=>e=.returned (.int .i64 (bitAt s k:Nat))∧w'=w:=by
 have hsz:(⟨s.toArray⟩:ByteArray).size=s.length:=rfl
 by_cases h:8*s.length≤k
 ·have k1:8*(s.length:Int)≤k:=by omega
  have HB:Hid (bitAt s k=0):=Lib.hid (by unfold bitAt;rw [if_pos h])
  go_enter Tryz.func68,Tryz.ntmps68
  go_wp2_with fail
  go_ret
  exact ⟨by rw [HB.out];rfl,rfl⟩
 ·have k1:¬ 8*(s.length:Int)≤k:=by omega
  obtain ⟨q,hq⟩:∃ q,q=k / 8:=⟨_,rfl⟩
  obtain ⟨r,hr⟩:∃ r,r=k % 8:=⟨_,rfl⟩
  have hql:q<s.length:=by omega
  have hg:=get_list s q hql
  have HB:=Lib.hid (bitAt_of h hq hr hql)
  obtain ⟨c,hc⟩:∃ c,c=s[q]:=⟨_,rfl⟩
  rw [← hc] at hg HB
  have hcl:=c.toNat_lt
  have e1:(k:Int).tdiv 8=(q:Int):=by rw [Int.tdiv_eq_ediv_of_nonneg (by omega)];omega
  have e2:(k:Int).tmod 8=(r:Int):=by rw [Int.tmod_eq_emod_of_nonneg (by omega)];omega
  have e3:(k:Int) / 8=(q:Int):=by omega
  have e4:(k:Int) % 8=(r:Int):=by omega
  have k2:(0:Int)≤q:=by omega
  have k3:(q:Int)<s.length:=by omega
  have hr8:r<8:=by omega
  generalize bitAt s k=res at *
  clear hq hr hc h
  go_enter Tryz.func68,Tryz.ntmps68
  go_upto_region 3 with fail
  rcases (show r=0∨r=1∨r=2∨r=3∨r=4∨r=5∨r=6∨r=7 by omega) with rfl|rfl|rfl|rfl|rfl|rfl|rfl|rfl
  all_goals (simp only [Nat.reduceSub,Nat.reducePow,Nat.div_one] at HB)
  all_goals go_wp2_with fail
  all_goals go_ret
  ·exact and1_end 128 HB.out hcl
  ·exact and1_end 64 HB.out hcl
  ·exact and1_end 32 HB.out hcl
  ·exact and1_end 16 HB.out hcl
  ·exact and1_end 8 HB.out hcl
  ·exact and1_end 4 HB.out hcl
  ·exact and1_end 2 HB.out hcl
  ·exact ⟨by rw [HB.out,and1_i64 _ (by omega)];rfl,rfl⟩
theorem L64d (i:Nat) (h:i<64):((⟨#[65,66,67,68,69,70,71,72,73,74,75,76,77,78,79,80,81,82,83,84,85,86,87,88,89,90,97,98,99,100,101,102,103,104,105,106,107,108,109,110,111,112,113,114,115,116,117,118,119,120,121,122,48,49,50,51,52,53,54,55,56,57,45,95]⟩:ByteArray)[i]'h)=b64C i:=by
 have:∀ i:Fin 64,((⟨#[65,66,67,68,69,70,71,72,73,74,75,76,77,78,79,80,81,82,83,84,85,86,87,88,89,90,97,98,99,100,101,102,103,104,105,106,107,108,109,110,111,112,113,114,115,116,117,118,119,120,121,122,48,49,50,51,52,53,54,55,56,57,45,95]⟩:ByteArray)[i.val]'i.isLt)=b64C i.val:=by decide +kernel
 exact this ⟨i,h⟩
theorem rb64_all {s:Bs} {i:Nat} (h:(8*s.length+5) / 6≤i):(rb64 s).take i=rb64 s:=List.take_of_length_le (by rw [rb64_len];exact h)
theorem dbase64_any (s:Bs) (w:World) (hl:s.length≤4398046511104) :
  Calls Tryz.prog 34 #[.string ⟨s.toArray⟩] w fun e w'=>e=.returned (.string ⟨(b64P s).toArray⟩)∧Fr NoB w w':=by
 obtain ⟨res,hres⟩:∃ r,r=b64P s:=⟨_,rfl⟩
 rw [← hres]
 have HRS:Hid (res=rb64 s):=Lib.hid (by rw [hres,rb64_eq])
 have HT:Hid (∀ i,i<(8*s.length+5) / 6→(rb64 s).take (i+1)=(rb64 s).take i++[b64C (foldB (bitAt s) (6*i) 6)]):=Lib.hid (rb64_take s)
 have HE:Hid (∀ i,(8*s.length+5) / 6≤i→(rb64 s).take i=rb64 s):=Lib.hid (fun i h=>rb64_all h)
 have HL:Hid (∀ i,((rb64 s).take i).length≤(8*s.length+5) / 6):=Lib.hid (fun i=>by rw [List.length_take,rb64_len];omega)
 have HB:Hid (∀ (k:Nat),k≤140737488355328→∀ u,Calls Tryz.prog 68 #[.string ⟨s.toArray⟩,.int .i64 k] u fun e w'=>e=.returned (.int .i64 (bitAt s k:Nat))∧w'=u):=Lib.hid (fun k hk u=>dbit_any s k u hl hk)
 have HF:Hid (∀ (k j:Nat),foldB (bitAt s) k (j+1)=2*foldB (bitAt s) k j+bitAt s (k+j)):=Lib.hid (fun k j=>rfl)
 have HF0:Hid (∀ (k:Nat),foldB (bitAt s) k 0=0):=Lib.hid (fun k=>rfl)
 have HFL:Hid (∀ (k j:Nat),foldB (bitAt s) k j<2 ^ j):=Lib.hid (fun k j=>foldB_lt _ k (bitAt_lt s) j)
 have HBL:Hid (∀ (k:Nat),bitAt s k<2):=Lib.hid (bitAt_lt s)
 have hsz:(⟨s.toArray⟩:ByteArray).size=s.length:=rfl
 generalize rb64 s=R at *
 generalize foldB (bitAt s)=FO at *
 generalize bitAt s=BI at *
 clear hres
 go_enter Tryz.func34,Tryz.ntmps34
 go_upto_region 2 with fail
 have br0:BR w.heap.size (w.alloc (.cells #[] 5)) (.slice (some ⟨w.heap.size,0,none⟩) 0 0) []:=BR.first w #[] [] rfl (by simp)
 have f0:Fr NoB w (w.alloc (.cells #[] 5)):=(Fr.refl _ _).alloc _
 generalize w.alloc (.cells #[] 5)=W at *
 go_wp2_with fail
 go_loopw [3,4] (fun v3 v4 wr=>∃ i:Nat,i≤(8*s.length+5) / 6∧v4=.int .i64 ((6*i:Nat):Int)∧BR w.heap.size wr v3 (R.take i)∧Fr NoB w wr) (fun _ v4 _=>(8*s.length+5) - (intOf v4).toNat)
 case atStart=>exact ⟨0,Nat.zero_le _,rfl,by simpa using br0,f0⟩
 case round=>
  clear br0 f0
  obtain ⟨i,hi,rfl,hb,hf⟩:=hrel
  obtain ⟨k,hk⟩:∃ k,k=6*i:=⟨_,rfl⟩
  rw [← hk]
  have HK:=Lib.hid hk
  by_cases hlt:8*s.length≤k
  ·have k1:¬ (k:Int)<8*(s.length:Int):=by omega
   have HE2:=Lib.hid (HE.out i (by omega))
   clear hk
   have hcv:=hb.conv
   go_wp2_with fail
   go_ret
   exact ⟨by rw [HE2.out,HRS.out];rfl,hf⟩
  ·have k1:(k:Int)<8*(s.length:Int):=by omega
   have HT2:=Lib.hid (HT.out i (by omega))
   have HL2:=HL.out i
   rw [← hk] at HT2
   clear hk
   generalize R.take i=acc at *
   go_upto_region 6 with fail
   go_wp2_with fail
   go_loopw [5,6] (fun v5 v6 w2=>∃ j:Nat,j≤6∧v6=.int .i64 j∧v5=.int .i64 (FO k j:Nat)∧w2=wr) (fun _ v6 _=>6 - (intOf v6).toNat)
   case atStart=>exact ⟨0,by omega,rfl,by rw [HF0.out];rfl,rfl⟩
   case round=>
    obtain ⟨j,hj,rfl,rfl,rfl⟩:=hrel
    have hxl:=HFL.out k j
    have hp6:2 ^ j≤2 ^ 6:=Nat.pow_le_pow_right (by decide) hj
    by_cases h6:j<6
    ·have k2:(j:Int)<6:=by omega
     have HB2:Hid (∀ u,Calls Tryz.prog 68 #[.string ⟨s.toArray⟩,.int .i64 ((k:Int)+(j:Int))] u fun e w'=>e=.returned (.int .i64 (BI (k+j):Nat))∧w'=u):=Lib.hid (fun u=>HB.out (k+j) (by omega) u)
     have hbl:=HBL.out (k+j)
     have HF2:=Lib.hid (HF.out k j)
     generalize FO k j=x at *
     generalize BI (k+j)=b at *
     go_wp2_with (go_at_call 68;((with_reducible refine (HB2.out _).mono ?_);rintro e w3 ⟨rfl,rfl⟩))
     go_roundw
     case rel=>exact ⟨j+1,by omega,by simp,by rw [HF2.out];simp,trivial⟩
     case measure=>simp [intOf];omega
    ·obtain rfl:j=6:=by omega
     generalize FO k 6=x at *
     have hx64:x<64:=by omega
     have t1:=L64d x hx64
     have k2:(0:Int)≤x:=by omega
     have k3:(x:Int)<64:=by omega
     generalize b64C x=c at *
     have fA:Fr NoB wr (wr.alloc (.cells #[.int .u8 (c.toNat:Int)] 5)):=(Fr.refl _ _).alloc _
     have hbA:=hb.fr fA
     have hws:=hf.size
     go_wp2_with (at_builtin;go_loud (refine br_row rfl _ _ rfl w.heap.size u3 acc rfl hbA wr.heap.size 1 1 [c] rfl rfl (new_cells wr #[.int .u8 (c.toNat:Int)] [c] rfl) (by simp;omega) (by simp;omega) ?_;intro v4 w4 hown4 hgr))
     go_roundw
     case rel=>exact ⟨i+1,by have hk:=HK.out;omega,by rw [show 6*(i+1)=k+6 by have hk:=HK.out;omega];simp,by rw [HT2.out];exact hown4,hbA.grown (hf.trans fA) hgr (Nat.le_refl _)⟩
     case measure=>(have hk:=HK.out;simp [intOf];omega)
theorem num_minus (c:UInt8) (h:num64 c<0):num64 c = -1:=by
 have:=forall_u8 (p:=fun c=>decide (num64 c<0→num64 c = -1)) (by decide +kernel) c
 exact of_decide_eq_true this h
theorem b64L_get {k:Nat} (h:k<b64L.length):b64L[k]=b64C k:=by
 unfold b64C;rw [List.getD_eq_getElem?_getD,List.getElem?_eq_getElem h];rfl
theorem num_hit {c:UInt8} {k:Nat} (hk:k<b64L.length) (h:b64L[k]=c):num64 c=(k:Int):=by
 rw [← h,b64L_get hk]
 exact letters_back k (by have:b64L.length=64:=rfl;omega)
theorem num_miss {c:UInt8} (h:∀ (k:Nat) (hk:k<b64L.length),b64L[k]≠c):num64 c = -1:=by
 refine num_minus c (Decidable.byContradiction fun hc => ?_)
 obtain ⟨h1,h2⟩:=num_letter c (by omega)
 have h3:(num64 c).toNat<b64L.length:=by have:b64L.length=64:=rfl;omega
 exact h _ h3 (by rw [b64L_get h3,h1])
theorem dplace_any (c:UInt8) (w:World) :
  Calls Tryz.prog 190 #[.string ⟨b64L.toArray⟩,.int .u8 (c.toNat:Int)] w fun e w'=>e=.returned (.int .i64 (num64 c))∧w'=w:=by
 obtain ⟨A,hA⟩:∃ A,A=b64L:=⟨_,rfl⟩
 obtain ⟨res,hres⟩:∃ r,r=num64 c:=⟨_,rfl⟩
 rw [← hA,← hres]
 have hsz:(⟨A.toArray⟩:ByteArray).size=A.length:=rfl
 have hlen:A.length=64:=by rw [hA];rfl
 have HH:Hid (∀ (k:Nat) (hk:k<A.length),A[k]=c→res=(k:Int)):=Lib.hid (by subst hA;intro k hk h;rw [hres];exact num_hit hk h)
 have HM:Hid ((∀ (k:Nat) (hk:k<A.length),A[k]≠c)→res = -1):=Lib.hid (by subst hA;intro h;rw [hres];exact num_miss h)
 have hl:A.length≤64:=by omega
 clear hA hres hlen
 go_enter Tryz.func190,Tryz.ntmps190
 go_wp2_with fail
 go_loopw [5] (fun v wr=>∃ k:Nat,k≤A.length∧v=.int .i64 k∧wr=w∧Hid (∀ (j:Nat) (hj:j<A.length),j<k→A[j]≠c)) (fun v _=>A.length - (intOf v).toNat)
 case atStart=>exact ⟨0,Nat.zero_le _,rfl,rfl,Lib.hid (fun j hj h=>by omega)⟩
 case round=>
  obtain ⟨k,hk,rfl,rfl,HN⟩:=hrel
  by_cases hlt:k<A.length
  ·have k1:(0:Int)≤k:=by omega
   have k2:(k:Int)<A.length:=by omega
   have hg:=get_list A k hlt
   have HH2:=Lib.hid (HH.out k hlt)
   have HN2:Hid (A[k]≠c→∀ (j:Nat) (hj:j<A.length),j<k+1→A[j]≠c):=Lib.hid (fun h j hj hjk=>by
    by_cases e:j=k
    ·subst e;exact h
    ·exact HN.out j hj (by omega))
   generalize A[k]=d at *
   have hd:=d.toNat_lt
   have hc:=c.toNat_lt
   by_cases he:d=c
   ·subst he
    go_wp2_with fail
    go_ret
    exact ⟨by rw [HH2.out trivial];rfl,rfl⟩
   ·have he2:(d==c)=false:=by simpa using he
    have he3:((d.toNat:Int)==(c.toNat:Int))=false:=by
     have:d.toNat≠c.toNat:=fun e=>he (UInt8.toNat_inj.1 e)
     simp;omega
    have he4:¬ (d.toNat:Int)=(c.toNat:Int):=fun e=>he (UInt8.toNat_inj.1 (by omega))
    go_wp2_with fail
    go_roundw
    case rel=>exact ⟨k+1,by omega,by simp,trivial,Lib.hid (HN2.out he)⟩
    case measure=>simp [intOf];omega
  ·obtain rfl:k=A.length:=by omega
   go_wp2_with fail
   go_ret
   exact ⟨by rw [HM.out (fun k hk=>HN.out k hk hk)];rfl,rfl⟩
def NI (lo:Nat) (w:World) (v:Value) (l:List Nat):Prop:=w.ownsRow lo 3 1 v l.length (l.map (fun n:Nat=>Value.int .i64 (n:Int)))
theorem NI.fr {lo:Nat} {w w':World} {v:Value} {l:List Nat} (h:NI lo w v l) (f:Fr NoB w w'):NI lo w' v l:=Fr.row f h (fun _ _ e=>e)
theorem NI.grown {lo:Nat} {w0 w w':World} {v:Value} {l:List Nat} (h:NI lo w v l) (f:Fr NoB w0 w) (hg:w.grownBy w' v.ownBlock) (hlo:w0.heap.size≤lo):Fr NoB w0 w':=
 f.grown hg (fun j hj hlt=>absurd (World.ownsRow.lt h j hj).1 (by omega))
theorem NI.form {lo:Nat} {w:World} {v:Value} {l:List Nat} (h:NI lo w v l):∃ ao c,v=.slice ao l.length c:=by
 rcases h.2 with ⟨rfl,h0⟩|⟨g,cap,cur,rfl,_⟩
 ·exact ⟨none,0,by rw [h0]⟩
 ·exact ⟨_,_,rfl⟩
theorem NI.cells {lo:Nat} {w:World} {ao:Option Addr} {n c:Nat} {l:List Nat} (h:NI lo w (.slice ao n c) l) (hn:0<l.length):∃ g,ao=some ⟨g,0,none⟩∧g<w.heap.size∧∀ (i:Nat),i<l.length→w.cell? ⟨g,i,none⟩=some (.int .i64 (l.getD i 0:Nat)):=by
 have hc:=@World.ownsRow.cells _ _ _ _ _ _ _ h
 rcases h.2 with ⟨_,h0⟩|⟨g,cap,cur,e,hg,hh,_⟩
 ·omega
 ·cases e
  refine ⟨g,rfl,lt_of_block hh,fun i hi => ?_⟩
  have:=hc (g:=g) rfl i (.int .i64 (l.getD i 0:Nat)) (by rw [List.getElem?_map,List.getD_eq_getElem?_getD,List.getElem?_eq_getElem hi];rfl)
  rwa [add_at,Nat.zero_add] at this
theorem info_intDd:(Tryz.prog.info? 3).map (fun i=>(i.zero,i.size,i.bytes))=some (some (.int .i64 0),1,8):=by kernel_rfl
theorem ni_one {ops:Array Oper} {rest:List Oper} {o:Oper} {a:Act} {Q:Exit→Act→World→Prop} {w:World} (hgd:o.guard=none) (sl x:Operand)
  (ho:o.op=.call { callee:=.builtin .append,args := #[sl,x],argTypes := #[160,160] }) (lo:Nat) (v:Value) (l:List Nat) (hs:a.eval sl=v) (hown:NI lo w v l) (g:Nat) (n:Nat) (hx:a.eval x=.slice (some ⟨g,0,none⟩) 1 1)
  (hc:w.cell? ⟨g,0,none⟩=some (.int .i64 (n:Int))) (hsz:l.length≤4398046511104) (hlo:lo≤w.heap.size)
  (h:∀ v' w',NI lo w' v' (l++[n])→w.grownBy w' v.ownBlock→wpList Tryz.prog ops Q rest (a.put o.dst v') w'):wpList Tryz.prog ops Q (o::rest) a w:=by
 obtain ⟨i0,hi0,hz0,hz1,hz2⟩:=info_parts info_intDd
 refine wpList_append_own w hgd sl x 160 ho lo 3 i0 (.int .i64 0) 1 8 Tryz.underlying160 hi0 hz0 hz1 hz2 rfl (by decide) v l.length (l.map (fun n:Nat=>Value.int .i64 (n:Int))) hs hown ⟨g,0,none⟩ 1 1 [.int .i64 (n:Int)] hx (by simp) (fun j u hu => ?_) (fun u hu => ?_) (by unfold maxLen;omega) (by omega) hlo (fun v' w' h1 h2 _=>h v' w' ?_ h2)
 ·obtain ⟨hj,rfl⟩:j=0∧u=.int .i64 (n:Int):=by
   cases j with
   | zero=>simp at hu;exact ⟨rfl,hu.symm⟩
   | succ j=>simp at hu
  rw [add_at,hj];exact hc
 ·rw [List.mem_singleton] at hu;subst hu;rfl
 ·unfold NI
  simpa using h1
theorem one_int (w:World) (n:Int):(w.alloc (.cells #[.int .i64 n] 3)).cell? ⟨w.heap.size,0,none⟩=some (.int .i64 n):=by
 rw [World.cell?_alloc_mark];rfl
theorem nums_step {s:Bs} {m:Nat} {l:List Nat} (h:m<s.length) (hn:nums64 s=(nums64 (s.drop m)).map (l ++ ·)) (h0:0≤num64 s[m]):nums64 s=(nums64 (s.drop (m+1))).map ((l++[(num64 s[m]).toNat]) ++ ·):=by
 rw [hn,List.drop_eq_getElem_cons h,nums64,if_neg (by omega),Option.map_map]
 congr 1
 funext x
 simp
theorem nums_fall {s:Bs} {m:Nat} {l:List Nat} (h:m<s.length) (hn:nums64 s=(nums64 (s.drop m)).map (l ++ ·)) (h0:num64 s[m]<0):nums64 s=none:=by
 rw [hn,List.drop_eq_getElem_cons h,nums64,if_pos h0];rfl
theorem nums_end {s:Bs} {l:List Nat} (hn:nums64 s=(nums64 (s.drop s.length)).map (l ++ ·)):nums64 s=some l:=by
 rw [hn,List.drop_length];simp [nums64]
theorem six_len (l:List Nat):(l.flatMap sixB).length=6*l.length:=by
 induction l with
 | nil=>rfl
 | cons n r ih=>rw [List.flatMap_cons,List.length_append,ih,List.length_cons];simp [sixB];omega
theorem six_bits (l:List Nat):∀ b∈l.flatMap sixB,b<2:=by
 intro b hb
 obtain ⟨n,_,h⟩:=List.mem_flatMap.1 hb
 unfold sixB at h
 simp only [List.mem_cons,List.not_mem_nil,or_false] at h
 rcases h with rfl|rfl|rfl|rfl|rfl|rfl<;>exact Nat.mod_lt _ (by decide)
theorem six_at (n:Nat) {t:Nat} (h:t<6):(sixB n).take (t+1)=(sixB n).take t++[n / 2 ^ (5 - t) % 2]:=by
 rcases (show t=0∨t=1∨t=2∨t=3∨t=4∨t=5 by omega) with rfl|rfl|rfl|rfl|rfl|rfl<;>simp [sixB]
theorem and1_div {c b:Nat} (d:Nat) (h:b=c / d % 2) (hc:c<64):bits .and .i64 ((c:Int) / (d:Int)) 1=(b:Int):=by
 rw [h,← Int.natCast_ediv,and1_i64 _ (Nat.lt_of_le_of_lt (Nat.div_le_self _ _) (by omega))]
theorem dread_any (s:Bs) (w:World) (hl:s.length≤17592186044) :
  Calls Tryz.prog 140 #[.string ⟨s.toArray⟩,.string ⟨b64L.toArray⟩,.int .i64 6] w fun e w'=>e=.returned (.tuple #[.string ⟨((rread s).getD []).toArray⟩,.bool (rread s).isSome])∧Fr NoB w w':=by
 have hsz:(⟨s.toArray⟩:ByteArray).size=s.length:=rfl
 obtain ⟨A,hA⟩:∃ A,A=b64L.toArray:=⟨_,rfl⟩
 have HP:Hid (∀ (c:UInt8) (u:World),Calls Tryz.prog 190 #[.string ⟨A⟩,.int .u8 (c.toNat:Int)] u fun e w'=>e=.returned (.int .i64 (num64 c))∧w'=u):=Lib.hid (fun c u=>by
  subst hA
  exact dplace_any c u)
 rw [← hA]
 obtain ⟨o,ho⟩:∃ o,o=nums64 s:=⟨_,rfl⟩
 have HO:=Lib.hid ho
 obtain ⟨r1,hr1⟩:∃ r,r=(rread s).getD []:=⟨_,rfl⟩
 obtain ⟨r2,hr2⟩:∃ r,r=(rread s).isSome:=⟨_,rfl⟩
 rw [← hr1,← hr2]
 have HR0:Hid (nums64 s=none→r1=[]∧r2=false):=Lib.hid (fun h=>by rw [hr1,hr2,rread,h];exact ⟨rfl,rfl⟩)
 have HR1:Hid (∀ l,nums64 s=some l→r1=rbytes (l.flatMap sixB)∧r2=true):=Lib.hid (fun l h=>by rw [hr1,hr2,rread,h];exact ⟨rfl,rfl⟩)
 clear hA ho HO hr1 hr2
 go_enter Tryz.func140,Tryz.ntmps140
 go_upto_region 2 with fail
 have ni0:NI w.heap.size (w.alloc (.cells #[] 3)) (.slice (some ⟨w.heap.size,0,none⟩) 0 0) []:=⟨by simp,Or.inr ⟨w.heap.size,0,#[],rfl,Nat.le_refl _,Blk.new w _ _,Nat.le_refl _,by unfold maxLen;omega,rfl,rfl⟩⟩
 have f0:Fr NoB w (w.alloc (.cells #[] 3)):=(Fr.refl _ _).alloc _
 generalize w.alloc (.cells #[] 3)=W at *
 go_wp2_with fail
 go_loopw [8,9] (fun v8 v9 wr=>∃ (m:Nat) (l:List Nat),m≤s.length∧v9=.int .i64 m∧l.length=m∧Hid (nums64 s=(nums64 (s.drop m)).map (l ++ ·))∧NI w.heap.size wr v8 (l.flatMap sixB)∧Fr NoB w wr) (fun _ v9 _=>s.length - (intOf v9).toNat)
 case atStart=>exact ⟨0,[],Nat.zero_le _,rfl,rfl,Lib.hid (by simp),ni0,f0⟩
 case round=>
  clear ni0 f0
  obtain ⟨m,l,hm,rfl,hlm,HN,hn,hf⟩:=hrel
  have HLM:=Lib.hid hlm
  clear hlm
  by_cases hlt:m<s.length
  ·have k1:(0:Int)≤m:=by omega
   have k2:(m:Int)<s.length:=by omega
   have hg:=get_list s m hlt
   have HN1:=Lib.hid (nums_step hlt HN.out)
   have HN2:=Lib.hid (nums_fall hlt HN.out)
   obtain ⟨c,hc⟩:∃ c,c=s[m]:=⟨_,rfl⟩
   rw [← hc] at hg HN1 HN2
   have HPc:=Lib.hid (HP.out c)
   have HL64:Hid (0≤num64 c→(num64 c).toNat<64):=Lib.hid (fun h=>(num_letter c h).2)
   clear hc HN
   by_cases hz:num64 c<0
   ·have HQ:=Lib.hid (HR0.out (HN2.out hz))
    go_wp2_with (go_at_call 190;((with_reducible refine (HPc.out _).mono ?_);rintro e w1 ⟨rfl,rfl⟩))
    go_ret2
    exact ⟨by rw [HQ.out.1,HQ.out.2];rfl,hf⟩
   ·have HN3:=Lib.hid (HN1.out (by omega))
    have hn64:=HL64.out (by omega)
    obtain ⟨n,hnn⟩:∃ n,n=(num64 c).toNat:=⟨_,rfl⟩
    have hnz:num64 c=(n:Int):=by omega
    rw [← hnn] at HN3 hn64
    rw [hnz] at HPc
    have k3:¬ (n:Int)<0:=by omega
    have HS:=Lib.hid (fun (t:Nat) (h:t<6)=>six_at n h)
    have HSA:Hid ((l++[n]).flatMap sixB=l.flatMap sixB++sixB n):=Lib.hid (by rw [List.flatMap_append];simp)
    have hA6:(l.flatMap sixB).length=6*m:=by rw [six_len,HLM.out]
    have HS6:Hid ((sixB n).take 6=sixB n):=Lib.hid (List.take_of_length_le (by simp [sixB]))
    have HSL:Hid (∀ t,((sixB n).take t).length≤6):=Lib.hid (fun t=>by rw [List.length_take];simp [sixB];omega)
    clear hnn hnz hz HN1 HN2 HL64
    generalize l.flatMap sixB=L at *
    generalize sixB n=SX at *
    go_upto_region 8 with (go_at_call 190;((with_reducible refine (HPc.out _).mono ?_);rintro e w1 ⟨rfl,rfl⟩))
    go_wp2_with fail
    go_loopw [8,11] (fun v8 v11 w2=>∃ (t:Nat) (z:Int),t≤6∧v11=.int .i64 z∧z=5 - (t:Int)∧NI w.heap.size w2 v8 (L++SX.take t)∧Fr NoB w w2) (fun _ v11 _=>(intOf v11+1).toNat)
    case atStart=>exact ⟨0,_,Nat.zero_le _,rfl,by simp,by simpa using hn,hf⟩
    case round=>
     clear hn hf
     obtain ⟨t,z,ht,rfl,hz,hn2,hf2⟩:=hrel
     have htl:=HSL.out t
     have hs2:=hf2.size
     by_cases h6:t=6
     ·subst h6
      have k4:z<0:=by omega
      have hn3:NI w.heap.size wr u8 (L++SX):=by rw [← HS6.out];exact hn2
      clear hz
      go_wp2_with fail
      go_roundw
      case rel=>exact ⟨m+1,l++[n],by omega,by simp,by rw [List.length_append,HLM.out];rfl,HN3,by rw [HSA.out];exact hn3,hf2⟩
      case measure=>simp [intOf];omega
     ·have ht6:t<6:=by omega
      obtain ⟨bt,hbt⟩:∃ b,b=n / 2 ^ (5 - t) % 2:=⟨_,rfl⟩
      have HT1:Hid (SX.take (t+1)=SX.take t++[bt]):=Lib.hid (by rw [hbt];exact HS.out t ht6)
      have hnx:L.length+(SX.take t).length≤105553116270:=by omega
      generalize SX.take t=ST at *
      have fA:Fr NoB wr (wr.alloc (.cells #[.int .i64 (bt:Int)] 3)):=(Fr.refl _ _).alloc _
      have hA:=hn2.fr fA
      rcases (show t=0∨t=1∨t=2∨t=3∨t=4∨t=5 by omega) with rfl|rfl|rfl|rfl|rfl|rfl
      ·obtain rfl:z=5:=by omega
       have e1:bits .and .i64 ((n:Int) / 32) 1=(bt:Int):=and1_div 32 hbt hn64
       clear hbt hz
       go_wp2_with (at_builtin;go_loud (refine ni_one rfl _ _ rfl w.heap.size u8 (L++ST) rfl hA wr.heap.size bt rfl (one_int wr _) (by simp<;>omega) (by simp<;>omega) ?_;intro v4 w4 hown4 hgr4))
       go_roundw
       case rel=>exact ⟨1,_,by omega,rfl,by omega,by rw [HT1.out,← List.append_assoc];exact hown4,hA.grown (hf2.trans fA) hgr4 (Nat.le_refl _)⟩
       case measure=>(simp [intOf]<;>omega)
      ·obtain rfl:z=4:=by omega
       have e1:bits .and .i64 ((n:Int) / 16) 1=(bt:Int):=and1_div 16 hbt hn64
       clear hbt hz
       go_wp2_with (at_builtin;go_loud (refine ni_one rfl _ _ rfl w.heap.size u8 (L++ST) rfl hA wr.heap.size bt rfl (one_int wr _) (by simp<;>omega) (by simp<;>omega) ?_;intro v4 w4 hown4 hgr4))
       go_roundw
       case rel=>exact ⟨2,_,by omega,rfl,by omega,by rw [HT1.out,← List.append_assoc];exact hown4,hA.grown (hf2.trans fA) hgr4 (Nat.le_refl _)⟩
       case measure=>(simp [intOf]<;>omega)
      ·obtain rfl:z=3:=by omega
       have e1:bits .and .i64 ((n:Int) / 8) 1=(bt:Int):=and1_div 8 hbt hn64
       clear hbt hz
       go_wp2_with (at_builtin;go_loud (refine ni_one rfl _ _ rfl w.heap.size u8 (L++ST) rfl hA wr.heap.size bt rfl (one_int wr _) (by simp<;>omega) (by simp<;>omega) ?_;intro v4 w4 hown4 hgr4))
       go_roundw
       case rel=>exact ⟨3,_,by omega,rfl,by omega,by rw [HT1.out,← List.append_assoc];exact hown4,hA.grown (hf2.trans fA) hgr4 (Nat.le_refl _)⟩
       case measure=>(simp [intOf]<;>omega)
      ·obtain rfl:z=2:=by omega
       have e1:bits .and .i64 ((n:Int) / 4) 1=(bt:Int):=and1_div 4 hbt hn64
       clear hbt hz
       go_wp2_with (at_builtin;go_loud (refine ni_one rfl _ _ rfl w.heap.size u8 (L++ST) rfl hA wr.heap.size bt rfl (one_int wr _) (by simp<;>omega) (by simp<;>omega) ?_;intro v4 w4 hown4 hgr4))
       go_roundw
       case rel=>exact ⟨4,_,by omega,rfl,by omega,by rw [HT1.out,← List.append_assoc];exact hown4,hA.grown (hf2.trans fA) hgr4 (Nat.le_refl _)⟩
       case measure=>(simp [intOf]<;>omega)
      ·obtain rfl:z=1:=by omega
       have e1:bits .and .i64 ((n:Int) / 2) 1=(bt:Int):=and1_div 2 hbt hn64
       clear hbt hz
       go_wp2_with (at_builtin;go_loud (refine ni_one rfl _ _ rfl w.heap.size u8 (L++ST) rfl hA wr.heap.size bt rfl (one_int wr _) (by simp<;>omega) (by simp<;>omega) ?_;intro v4 w4 hown4 hgr4))
       go_roundw
       case rel=>exact ⟨5,_,by omega,rfl,by omega,by rw [HT1.out,← List.append_assoc];exact hown4,hA.grown (hf2.trans fA) hgr4 (Nat.le_refl _)⟩
       case measure=>(simp [intOf]<;>omega)
      ·obtain rfl:z=0:=by omega
       have e1:bits .and .i64 (n:Int) 1=(bt:Int):=by rw [and1_i64 _ (by omega),hbt];simp
       clear hbt hz
       go_wp2_with (at_builtin;go_loud (refine ni_one rfl _ _ rfl w.heap.size u8 (L++ST) rfl hA wr.heap.size bt rfl (one_int wr _) (by simp<;>omega) (by simp<;>omega) ?_;intro v4 w4 hown4 hgr4))
       go_roundw
       case rel=>exact ⟨6,_,by omega,rfl,by omega,by rw [HT1.out,← List.append_assoc];exact hown4,hA.grown (hf2.trans fA) hgr4 (Nat.le_refl _)⟩
       case measure=>(simp [intOf]<;>omega)
  ·obtain rfl:m=s.length:=by omega
   have HQ:=Lib.hid (HR1.out l (nums_end HN.out))
   have hLb:(l.flatMap sixB).length≤105553116264:=by rw [six_len,HLM.out];omega
   have HLB:=Lib.hid (six_bits l)
   clear HN HR0 HR1 HP HLM
   generalize l.flatMap sixB=L at *
   obtain ⟨w0,hw0⟩:∃ x,x=wr:=⟨_,rfl⟩
   subst hw0
   have hws:=hf.size
   obtain ⟨ao,cb,rfl⟩:=hn.form
   have HC:Hid (∀ u,Fr NoB w0 u→0<L.length→∃ g,ao=some ⟨g,0,none⟩∧∀ (i:Nat),i<L.length→u.cell? ⟨g,i,none⟩=some (.int .i64 (L.getD i 0:Nat))):=Lib.hid (fun u f h=>by
    obtain ⟨g,h1,h2,h3⟩:=hn.cells h
    exact ⟨g,h1,fun i hi=>(f.cell (p:=⟨g,i,none⟩) h2 (fun e=>e)).trans (h3 i hi)⟩)
   have HT:=Lib.hid (rbytes_take L)
   have HE:Hid (∀ i,L.length / 8≤i→(rbytes L).take i=rbytes L):=Lib.hid (fun i h=>List.take_of_length_le (by rw [rbytes_len];exact h))
   have HLn:Hid (∀ i,((rbytes L).take i).length≤L.length / 8):=Lib.hid (fun i=>by rw [List.length_take,rbytes_len];omega)
   have HLT:Hid (∀ i:Nat,L.getD i 0<2):=Lib.hid (fun i=>by
    rw [List.getD_eq_getElem?_getD]
    by_cases hi:i<L.length
    ·rw [List.getElem?_eq_getElem hi];exact HLB.out _ (List.getElem_mem hi)
    ·rw [List.getElem?_eq_none (by omega)];decide)
   have HF:Hid (∀ (k j:Nat),foldB (fun k=>L.getD k 0) k (j+1)=2*foldB (fun k=>L.getD k 0) k j+L.getD (k+j) 0):=Lib.hid (fun k j=>rfl)
   have HF0:Hid (∀ (k:Nat),foldB (fun k=>L.getD k 0) k 0=0):=Lib.hid (fun k=>rfl)
   have HFL:Hid (∀ (k j:Nat),foldB (fun k=>L.getD k 0) k j<2 ^ j):=Lib.hid (fun k j=>foldB_lt _ k HLT.out j)
   generalize foldB (fun k=>L.getD k 0)=FO at *
   generalize rbytes L=R at *
   clear HLB
   go_upto_region 13 with fail
   have br0:BR w0.heap.size (w0.alloc (.cells #[] 5)) (.slice (some ⟨w0.heap.size,0,none⟩) 0 0) []:=BR.first w0 #[] [] rfl (by simp)
   have f1:Fr NoB w0 (w0.alloc (.cells #[] 5)):=(Fr.refl _ _).alloc _
   clear hn
   generalize w0.alloc (.cells #[] 5)=W1 at *
   go_wp2_with fail
   go_loopw [12,13] (fun v12 v13 w2=>∃ i:Nat,i≤L.length / 8∧v13=.int .i64 ((8*i:Nat):Int)∧BR w0.heap.size w2 v12 (R.take i)∧Fr NoB w0 w2) (fun _ v13 _=>(L.length+8) - (intOf v13).toNat)
   case atStart=>exact ⟨0,Nat.zero_le _,rfl,by simpa using br0,f1⟩
   case round=>
    clear br0 f1
    obtain ⟨i,hi,rfl,hb,hf1⟩:=hrel
    obtain ⟨k,hk⟩:∃ k,k=8*i:=⟨_,rfl⟩
    rw [← hk]
    have HK:=Lib.hid hk
    have hkb:k≤105553116264:=by omega
    by_cases hlt:L.length<k+8
    ·have k1:¬ (k:Int)+8≤L.length:=by omega
     have HE2:=Lib.hid (HE.out i (by omega))
     clear hk
     have hcv:=hb.conv
     go_wp2_with fail
     go_ret2
     exact ⟨by rw [HQ.out.1,HQ.out.2,HE2.out];rfl,hf.trans hf1⟩
    ·have k1:(k:Int)+8≤L.length:=by omega
     have HT2:=Lib.hid (HT.out i (by omega))
     have HL2:=HLn.out i
     rw [← hk] at HT2
     obtain ⟨g,rfl,hcell⟩:=HC.out wr hf1 (by omega)
     have HCE:=Lib.hid hcell
     clear hk hcell
     generalize R.take i=acc at *
     obtain ⟨w5,hw5⟩:∃ x,x=wr:=⟨_,rfl⟩
     subst hw5
     go_upto_region 17 with fail
     go_wp2_with fail
     go_loopw [14,15] (fun v14 v15 w3=>∃ j:Nat,j≤8∧v15=.int .i64 j∧v14=.int .i64 (FO k j:Nat)∧w3=w5) (fun _ v15 _=>8 - (intOf v15).toNat)
     case atStart=>exact ⟨0,by omega,rfl,by rw [HF0.out];rfl,rfl⟩
     case round=>
      obtain ⟨j,hj,rfl,rfl,rfl⟩:=hrel
      have hxl:=HFL.out k j
      have hp8:2 ^ j≤2 ^ 8:=Nat.pow_le_pow_right (by decide) hj
      by_cases h8:j<8
      ·have k2:(j:Int)<8:=by omega
       obtain ⟨p,hp⟩:∃ p,p=k+j:=⟨_,rfl⟩
       have d0:=HCE.out p (by omega)
       have hbl:=HLT.out p
       have HF2:Hid (FO k (j+1)=2*FO k j+L.getD p 0):=Lib.hid (by rw [hp];exact HF.out k j)
       have s1:(k:Int)+(j:Int)=(p:Int):=by omega
       have k3:(0:Int)≤p:=by omega
       have k4:(p:Int)<L.length:=by omega
       clear hp
       generalize FO k j=x at *
       generalize L.getD p 0=b at *
       go_wp2_with fail
       go_roundw
       case rel=>exact ⟨j+1,by omega,by simp,by rw [HF2.out];simp,trivial⟩
       case measure=>simp [intOf];omega
      ·obtain rfl:j=8:=by omega
       generalize FO k 8=x at *
       have hx:x<256:=by omega
       have hx8:(x.toUInt8).toNat=x:=by simp [Nat.toUInt8,UInt8.toNat_ofNat',Nat.mod_eq_of_lt hx]
       have HX8:Hid ((#[Value.int .u8 (x:Int)]:Array Value).toList=bC [x.toUInt8]):=Lib.hid (by simp [bC,hx8])
       clear hx8
       obtain ⟨w6,hw6⟩:∃ x,x=wr:=⟨_,rfl⟩
       subst hw6
       have fA:Fr NoB w6 (w6.alloc (.cells #[.int .u8 (x:Int)] 5)):=(Fr.refl _ _).alloc _
       have hA:=hb.fr fA
       have h6s:=hf1.size
       go_wp2_with (at_builtin;go_loud (refine br_row rfl _ _ rfl w0.heap.size u12 acc rfl hA w6.heap.size 1 1 [x.toUInt8] rfl rfl (new_cells w6 #[.int .u8 (x:Int)] [x.toUInt8] HX8.out) (by simp<;>omega) (by simp<;>omega) ?_;intro v4 w4 hown4 hgr))
       go_roundw
       case rel=>exact ⟨i+1,by have hk:=HK.out;omega,by rw [show 8*(i+1)=k+8 by have hk:=HK.out;omega];simp,by rw [HT2.out];exact hown4,hA.grown (hf1.trans fA) hgr (Nat.le_refl _)⟩
       case measure=>(have hk:=HK.out;simp [intOf];omega)
theorem dfrom64_any (s:Bs) (w:World) (hl:s.length≤17592186044) :
  Calls Tryz.prog 85 #[.string ⟨s.toArray⟩] w fun e w'=>e=.returned (.tuple #[.string ⟨((from64 s).getD []).toArray⟩,.int .i64 (if (from64 s).isSome then 0 else 11)])∧Fr NoB w w':=by
 have HR:Hid (∀ u,Calls Tryz.prog 140 #[.string ⟨s.toArray⟩,.string ⟨#[65,66,67,68,69,70,71,72,73,74,75,76,77,78,79,80,81,82,83,84,85,86,87,88,89,90,97,98,99,100,101,102,103,104,105,106,107,108,109,110,111,112,113,114,115,116,117,118,119,120,121,122,48,49,50,51,52,53,54,55,56,57,45,95]⟩,.int .i64 6] u fun e w'=>e=.returned (.tuple #[.string ⟨((rread s).getD []).toArray⟩,.bool (rread s).isSome])∧Fr NoB u w'):=Lib.hid (fun u=>dread_any s u hl)
 obtain ⟨r1,hr1⟩:∃ r,r=(from64 s).getD []:=⟨_,rfl⟩
 obtain ⟨r2,hr2⟩:∃ r:Int,r=if (from64 s).isSome then 0 else 11:=⟨_,rfl⟩
 rw [← hr1,← hr2]
 cases hq:rread s with
 | none=>
  rw [hq] at HR
  have HX:Hid (r1=[]∧r2=11):=Lib.hid (by rw [hr1,hr2,rread_none hq];exact ⟨rfl,rfl⟩)
  clear hr1 hr2 hq
  have HR':Hid (∀ u,Calls Tryz.prog 140 #[.string ⟨s.toArray⟩,.string ⟨#[65,66,67,68,69,70,71,72,73,74,75,76,77,78,79,80,81,82,83,84,85,86,87,88,89,90,97,98,99,100,101,102,103,104,105,106,107,108,109,110,111,112,113,114,115,116,117,118,119,120,121,122,48,49,50,51,52,53,54,55,56,57,45,95]⟩,.int .i64 6] u fun e w'=>e=.returned (.tuple #[.string ⟨#[]⟩,.bool false])∧Fr NoB u w'):=Lib.hid HR.out
  clear HR
  go_enter Tryz.func85,Tryz.ntmps85
  go_wp2_with (go_at_call 140;((with_reducible refine (HR'.out _).mono ?_);rintro e w1 ⟨rfl,f1⟩))
  go_ret2
  exact ⟨by rw [HX.out.1,HX.out.2];rfl,f1⟩
 | some q=>
  rw [hq] at HR
  have hqs:=rread_some hq
  have HR':Hid (∀ u,Calls Tryz.prog 140 #[.string ⟨s.toArray⟩,.string ⟨#[65,66,67,68,69,70,71,72,73,74,75,76,77,78,79,80,81,82,83,84,85,86,87,88,89,90,97,98,99,100,101,102,103,104,105,106,107,108,109,110,111,112,113,114,115,116,117,118,119,120,121,122,48,49,50,51,52,53,54,55,56,57,45,95]⟩,.int .i64 6] u fun e w'=>e=.returned (.tuple #[.string ⟨q.toArray⟩,.bool true])∧Fr NoB u w'):=Lib.hid HR.out
  have hql:q.length≤4398046511104:=by
   have:q.length≤s.length:=by
    unfold rread at hq
    obtain ⟨l,h1,h2⟩:=Option.map_eq_some_iff.1 hq
    rw [← h2,rbytes_len,six_len]
    have:=congrArg List.length (nums_back s l h1).1
    rw [List.length_map] at this
    omega
   omega
  have HB:=Lib.hid (fun u=>dbase64_any q u hql)
  clear HR hq
  by_cases he:b64P q=s
  ·rw [if_pos he] at hqs
   rw [he] at HB
   have HX:Hid (r1=q∧r2=0):=Lib.hid (by rw [hr1,hr2,hqs];exact ⟨rfl,rfl⟩)
   have hss:(s==s)=true:=by simp
   clear hr1 hr2 he hqs
   go_enter Tryz.func85,Tryz.ntmps85
   go_wp2_with (first|(go_at_call 140;((with_reducible refine (HR'.out _).mono ?_);rintro e w1 ⟨rfl,f1⟩))|(go_at_call 34;((with_reducible refine (HB.out _).mono ?_);rintro e w2 ⟨rfl,f2⟩)))
   go_ret2
   exact ⟨by rw [HX.out.1,HX.out.2];rfl,f1.trans f2⟩
  ·rw [if_neg he] at hqs
   have HX:Hid (r1=[]∧r2=11):=Lib.hid (by rw [hr1,hr2,hqs];exact ⟨rfl,rfl⟩)
   have hss:(b64P q==s)=false:=by simpa using he
   clear hr1 hr2 hqs
   generalize b64P q=p at *
   go_enter Tryz.func85,Tryz.ntmps85
   go_wp2_with (first|(go_at_call 140;((with_reducible refine (HR'.out _).mono ?_);rintro e w1 ⟨rfl,f1⟩))|(go_at_call 34;((with_reducible refine (HB.out _).mono ?_);rintro e w2 ⟨rfl,f2⟩)))
   go_ret2
   exact ⟨by rw [HX.out.1,HX.out.2];rfl,f1.trans f2⟩
end Go.Proofs.YtbifjamddbpcjaaGreatDoor
