/- text.FromBase64, the program's: numbers. -/
import Derived.Test.YtbifjamddbpcjaaGreatDoorTx
import Derived.Test.YtbifjamddbpcjaaGreatDoorVd
import Derived.Test.YtbifjamddbpcjaaGreatDoorRs
import Derived.Test.YtbifjamddbpcjaaGreatDoorEa
import Derived.Test.YtbifjamddbpcjaaGreatDoorYb
import Derived.Laws.AppendOwnNone
namespace Go.Proofs.YtbifjamddbpcjaaGreatDoor
set_option maxRecDepth 100000
set_option maxHeartbeats 25600000
open Go.RowKit
abbrev nV (k:Nat):Value:=.int .u8 (k:Int)
theorem num64_lt:∀ c:UInt8,num64 c<64:=by
 intro c
 have h:=forall_u8 (p:=fun c=>decide (num64 c<64)) (by decide +kernel) c
 exact of_decide_eq_true h
theorem set_nextB (l:List Nat) (n k:Nat) (h:l.length<n):((l.map nV++List.replicate (n - l.length) (Value.int .u8 0)).toArray).setIfInBounds l.length (nV k)=((l++[k]).map nV++List.replicate (n - (l++[k]).length) (Value.int .u8 0)).toArray:=by
 rw [List.setIfInBounds_toArray]
 congr 1
 have e:n - l.length=(n - (l++[k]).length)+1:=by simp;omega
 rw [List.set_append_right _ _ (by simp),e,List.replicate_succ]
 simp
theorem made_zeroB (n:Nat):madeCells #[Value.int .u8 0] n=Array.replicate n (Value.int .u8 0):=by
 unfold madeCells
 apply Array.ext_getElem?
 intro j
 by_cases h:j<n
 ·simp [h,Nat.mod_one]
 ·simp [h]
def NumsIs (o:Option (List Nat)) (w:World) (e:Ending) (w':World):Prop:=Fr NoB w w'∧match o with
 | some l=>∃ g,e=.returned (.tuple #[.slice (some ⟨g,0,none⟩) l.length l.length,.nilIface])∧w.heap.size≤g∧Blk w' g 5 (l.map nV).toArray
 | none=>∃ p,e=.returned (.tuple #[.slice none 0 0,thereV p 11])
theorem nums_len:∀ {s:Bs} {l:List Nat},nums64 s=some l→l.length=s.length
 | [],l,h=>by simp [nums64] at h;subst h;rfl
 | c::r,l,h=>by
  rw [nums64] at h
  split at h
  ·cases h
  ·cases hr:nums64 r with
   | none=>rw [hr] at h;cases h
   | some q=>
    rw [hr] at h
    simp only [Option.map_some,Option.some.injEq] at h
    subst h
    simp [nums_len hr]
theorem nums_lt:∀ {s:Bs} {l:List Nat},nums64 s=some l→∀ k∈l,k<64
 | [],l,h=>by simp [nums64] at h;subst h;simp
 | c::r,l,h=>by
  rw [nums64] at h
  split at h
  ·cases h
  ·rename_i h0
   cases hr:nums64 r with
   | none=>rw [hr] at h;cases h
   | some q=>
    rw [hr] at h
    simp only [Option.map_some,Option.some.injEq] at h
    subst h
    intro k hk
    rcases List.mem_cons.1 hk with rfl|hk
    ·have:=num64_lt c;omega
    ·exact nums_lt hr k hk
theorem numbers_any {B:Nat} (s:Bs) (w:World) (hx:Cx B w) (hl:s.length≤17592186044416) :
  Calls Tryz.prog 52 #[.string ⟨s.toArray⟩,.string ⟨b64L.toArray⟩,.int .i64 11] w (NumsIs (nums64 s) w):=by
 have hmk:=run_make_row' (P:=Tryz.prog) 81 5 (.int .u8 0) 1 Tryz.underlying81 info_byteD rfl .i64 .i64 s.length (by omega) (by omega)
 rw [made_zeroB] at hmk
 obtain ⟨A,hA⟩:∃ A,A=b64L.toArray:=⟨_,rfl⟩
 have HI:Hid (∀ (c:UInt8) (u:World),Calls Tryz.prog 87 #[.string ⟨A⟩,.int .u8 (c.toNat:Int)] u fun e w'=>e=.returned (.int .i64 (num64 c))∧u=w'):=Lib.hid (fun c u=>by
  subst hA
  have:=indexByte_any b64L (c.toNat:Int) u
  simpa [num64] using this)
 rw [← hA]
 obtain ⟨o,ho⟩:∃ o,o=nums64 s:=⟨_,rfl⟩
 rw [← ho]
 have HO:=Lib.hid ho
 clear ho hA
 have hsz:(⟨s.toArray⟩:ByteArray).size=s.length:=rfl
 have f1:Fr NoB w (w.alloc (.cells (Array.replicate s.length (Value.int .u8 0)) 5)):=(Fr.refl _ _).alloc _
 have gb:=Blk.new w 5 (Array.replicate s.length (Value.int .u8 0))
 go_enter Tryz.func52,Tryz.ntmps52
 go_upto_region 2 with fail
 generalize w.alloc (.cells (Array.replicate s.length (Value.int .u8 0)) 5)=W at *
 go_wp2_with fail
 go_loopw [16] (fun v wr=>∃ l:List Nat,l.length≤s.length∧v=.int .i64 l.length∧nums64 s=(nums64 (s.drop l.length)).map (l ++ ·)∧Blk wr w.heap.size 5 (l.map nV++List.replicate (s.length - l.length) (Value.int .u8 0)).toArray∧Fr NoB w wr) (fun v _=>s.length - (intOf v).toNat)
 case atStart=>exact ⟨[],Nat.zero_le _,rfl,by simp,by simpa using gb,f1⟩
 case round=>
  clear gb f1
  obtain ⟨l,hll,rfl,hnu,hb,hf⟩:=hrel
  by_cases hlt:l.length<s.length
  ·have k1:(0:Int)≤l.length:=by omega
   have k2:(l.length:Int)<s.length:=by omega
   have hg:=get_list s l.length hlt
   have hd:s.drop l.length=s[l.length]::s.drop (l.length+1):=List.drop_eq_getElem_cons hlt
   rw [hd,nums64] at hnu
   generalize s[l.length]=c at *
   have HN:=Lib.hid hnu
   have h64:=num64_lt c
   clear hnu hd
   by_cases hz:num64 c<0
   ·have HN2:Hid (o=none):=Lib.hid (by rw [HO.out,HN.out,if_pos hz];rfl)
    have hxr:=hx.fr0 hf
    go_wp2_with (first|(go_at_call 87;((with_reducible refine (HI.out c _).mono ?_);rintro e w1 ⟨rfl,rfl⟩))|(go_at_call 88;((with_reducible refine (at_any (B:=B) l.length 11 _ hxr (by omega) (by omega)).mono ?_);rintro e w2 ⟨rfl,f2⟩)))
    go_ret2
    exact (show NumsIs o w _ _ by rw [HN2.out];exact ⟨hf.trans f2,_,rfl⟩)
   ·have HN2:Hid (nums64 s=(nums64 (s.drop (l++[(num64 c).toNat]).length)).map ((l++[(num64 c).toNat]) ++ ·)):=Lib.hid (by
     rw [HN.out,if_neg hz,Option.map_map]
     have e:(l++[(num64 c).toNat]).length=l.length+1:=by simp
     rw [e]
     congr 1
     funext x
     simp)
    obtain ⟨k,hk⟩:∃ k,k=(num64 c).toNat:=⟨_,rfl⟩
    have hkz:num64 c=(k:Int):=by omega
    rw [← hk] at HN2
    have k3:¬ (k:Int)<0:=by omega
    have k4:(k:Int) % 256=(k:Int):=by omega
    have HI2:=Lib.hid (HI.out c)
    rw [hkz] at HI2
    have hfz:=hb.frozen l.length
    have hcm:∃ u,wr.cell? ⟨w.heap.size,l.length,none⟩=some u:=by
     rw [hb.cell,List.getElem?_toArray]
     exact ⟨_,List.getElem?_eq_getElem (by simp;omega)⟩
    obtain ⟨u,hu⟩:=hcm
    have hnx:=hb.set_ l.length (nV k)
    rw [set_nextB l s.length k hlt] at hnx
    have HB:=Lib.hid hnx
    have HF:=Lib.hid (hf.setCell_new (p:=⟨w.heap.size,l.length,none⟩) (Nat.le_refl _) (nV k))
    clear hb hnx hf hk hkz hz h64 HI
    go_wp2_with (go_at_call 87;((with_reducible refine (HI2.out _).mono ?_);rintro e w1 ⟨rfl,rfl⟩))
    go_roundw
    case rel=>exact ⟨l++[k],by simp;omega,by simp,HN2.out,HB.out,HF.out⟩
    case measure=>simp [intOf];omega
  ·have hll2:l.length=s.length:=by omega
   have HO2:Hid (o=some l):=Lib.hid (by rw [HO.out,hnu,hll2,List.drop_length];simp [nums64])
   have hb2:Blk wr w.heap.size 5 (l.map nV).toArray:=by rw [hll2] at hb;simpa using hb
   rw [← hll2] at *
   go_wp2_with fail
   go_ret2
   exact (show NumsIs o w _ _ by rw [HO2.out];exact ⟨hf,_,rfl,Nat.le_refl _,hb2⟩)
theorem step_br_none {ops:Array Oper} {o:Oper} {a:Act} {K:Act→World→Prop} {Q:Exit→Act→World→Prop} {E:Prop} {w:World} (hgd:o.guard=none) (sl x:Operand)
  (ho:o.op=.call { callee:=.builtin .append,args := #[sl,x],argTypes := #[81,81] }) (lo:Nat) (v:Value) (s:Bs) (hs:a.eval sl=v) (hown:BR lo w v s) (hx:a.eval x=.slice none 0 0) (h:K (a.put o.dst v) w) :
  if Region.wanted o (yielded ops a.tmps)=true then Oper.wp Tryz.prog o a w K Q else E:=by
 have hw:Region.wanted o (yielded ops a.tmps)=true:=by simp [Region.wanted,hgd]
 rw [if_pos hw]
 obtain ⟨i0,hi0,hz0,hz1,hz2⟩:=info_parts info_byteD
 have hrun:=run_append_owned_none (P:=Tryz.prog) (w:=w) lo 81 o.type 5 i0 1 Tryz.underlying81 hi0 v s.length (bC s) hown
 unfold Oper.wp
 simp [execOp,ho,resolve,invoke,builtin,hs,hx,hrun,Result.andThen]
 exact h
theorem br_none {ops:Array Oper} {rest:List Oper} {o:Oper} {a:Act} {Q:Exit→Act→World→Prop} {w:World} (hgd:o.guard=none) (sl x:Operand)
  (ho:o.op=.call { callee:=.builtin .append,args := #[sl,x],argTypes := #[81,81] }) (lo:Nat) (v:Value) (s:Bs) (hs:a.eval sl=v) (hown:BR lo w v s) (hx:a.eval x=.slice none 0 0) (h:wpList Tryz.prog ops Q rest (a.put o.dst v) w):wpList Tryz.prog ops Q (o::rest) a w:=by
 obtain ⟨i0,hi0,hz0,hz1,hz2⟩:=info_parts info_byteD
 exact wpList_append_own_none hgd sl x 81 ho lo 5 i0 1 Tryz.underlying81 hi0 v s.length (bC s) hs hown hx h
theorem BR.form {lo:Nat} {w:World} {v:Value} {s:Bs} (h:BR lo w v s):∃ ao c,v=.slice ao s.length c:=by
 rcases h.2 with ⟨rfl,h0⟩|⟨g,cap,cur,rfl,_⟩
 ·exact ⟨none,0,by rw [h0]⟩
 ·exact ⟨_,_,rfl⟩
theorem or_lo (a b k n:Nat) (ha:a*2 ^ k<256) (hb:b<2 ^ k) (hk:2 ^ k≤256) (hn:n=a*2 ^ k+b):bits .or .u8 ((a*2 ^ k:Nat):Int) (b:Int)=(n:Int):=by
 rw [or_u8 _ _ ha (by omega),or_sum _ _ _ hb,hn]
def NR (w:World) (v:Value) (l:List Nat):Prop:=∃ g o c,v=.slice (some ⟨g,o,none⟩) l.length c∧l.length≤c∧g<w.heap.size∧∀ (i:Nat) k,l[i]?=some k→w.cell? ⟨g,o+i,none⟩=some (nV k)
theorem NR.fr {w u:World} {v:Value} {l:List Nat} (h:NR w v l) (f:Fr NoB w u):NR u v l:=by
 obtain ⟨g,o,c,h1,h2,h3,h4⟩:=h
 exact ⟨g,o,c,h1,h2,Nat.lt_of_lt_of_le h3 f.size,fun i k hk=>(f.cell (p:=⟨g,o+i,none⟩) h3 (fun e=>e)).trans (h4 i k hk)⟩
def UnfIs (o:Option Bs) (w:World) (e:Ending) (w':World):Prop:=Fr NoB w w'∧match o with
 | some t=>∃ v,e=.returned (.tuple #[v,.nilIface])∧BR w.heap.size w' v t
 | none=>∃ p,e=.returned (.tuple #[.slice none 0 0,thereV p 11])
def slLen:Value→Nat | .slice _ n _=>n|_=>0
theorem unfolded_any {B:Nat} (l:List Nat) (v:Value) (w:World) (hx:Cx B w) (hl:l.length≤17592186044416) (hv:NR w v l) (h64:∀ k∈l,k<64) :
  Calls Tryz.prog 53 #[v] w (UnfIs (unf64 l) w):=by
 obtain ⟨o,ho⟩:∃ o,o=unf64 l:=⟨_,rfl⟩
 rw [← ho]
 have HO:=Lib.hid ho
 clear ho
 have HV:=Lib.hid hv
 clear hv
 go_enter Tryz.func53,Tryz.ntmps53
 go_wp2_with fail
 go_loopw [0,4] (fun v0 v4 wr=>∃ (r:List Nat) (acc:Bs),r.length≤l.length∧NR w v0 r∧BR w.heap.size wr v4 acc∧unf64 l=(unf64 r).map (acc ++ ·)∧(∀ k∈r,k<64)∧acc.length≤l.length - r.length∧Fr NoB w wr) (fun v0 _ _=>slLen v0)
 case atStart=>exact ⟨l,[],Nat.le_refl _,HV.out,World.ownsRow_nil _ _ _ _,by simp,h64,by simp,Fr.refl _ _⟩
 case round=>
  obtain ⟨r,acc,hrl,hnr,hbr,hun,hr64,hal,hf⟩:=hrel
  have HBR:=Lib.hid hbr
  have HUN:=Lib.hid hun
  have HNR:=Lib.hid hnr
  have HF:=Lib.hid hf
  obtain ⟨g,ofs,c,rfl,hrc,hg,hcell⟩:=hnr
  clear hbr hun h64 HV hf
  rcases r with _|⟨a,_|⟨b,_|⟨e2,_|⟨d,r'⟩⟩⟩⟩
  ·have HO2:Hid (o=some acc):=Lib.hid (by rw [HO.out,HUN.out];simp [unf64])
   go_wp2_with (at_builtin;refine br_none rfl _ _ rfl w.heap.size _ acc rfl HBR.out rfl ?_)
   go_ret2
   exact (show UnfIs o w _ _ by rw [HO2.out];exact ⟨HF.out,_,rfl,HBR.out⟩)
  ·have HO2:Hid (o=none):=Lib.hid (by rw [HO.out,HUN.out];simp [unf64])
   obtain ⟨ao,ca,rfl⟩:=HBR.out.form
   have hxr:=hx.fr0 HF.out
   simp only [List.length_cons,List.length_nil] at hal hrl
   go_wp2_with (go_at_call 88;((with_reducible refine (at_any (B:=B) acc.length 11 _ hxr (by omega) (by omega)).mono ?_);rintro e w2 ⟨rfl,f2⟩))
   go_ret2
   exact (show UnfIs o w _ _ by rw [HO2.out];exact ⟨HF.out.trans f2,_,rfl⟩)
  ·have y0:=hcell 0 a rfl
   have y1:=hcell 1 b rfl
   have HSS:Hid (∀ u,Fr NoB w u→u.cell? ⟨g,ofs,none⟩=some (nV a)∧u.cell? ⟨g,ofs+1,none⟩=some (nV b)):=Lib.hid (fun u f=>⟨(f.cell (p:=⟨g,ofs,none⟩) hg (fun e=>e)).trans y0,(f.cell (p:=⟨g,ofs+1,none⟩) hg (fun e=>e)).trans y1⟩)
   clear y0 y1
   obtain ⟨x0,x1⟩:=HSS.out wr HF.out
   have a64:=hr64 a (by simp)
   have b64:=hr64 b (by simp)
   obtain ⟨y1,hy1⟩:∃ y,y=a*4+b / 16:=⟨_,rfl⟩
   obtain ⟨p1,hp1⟩:∃ y,y=a*4:=⟨_,rfl⟩
   obtain ⟨p2,hp2⟩:∃ y,y=b / 16:=⟨_,rfl⟩
   obtain ⟨p4,hp4⟩:∃ y,y=b % 16*16:=⟨_,rfl⟩
   have s1:IntKind.u8.wrap ((a:Int)*4)=(p1:Int):=by rw [IntKind.wrap_u8];omega
   have s2:(b:Int) / 16=(p2:Int):=by omega
   have s4:IntKind.u8.wrap ((b:Int)*16)=(p4:Int):=by rw [IntKind.wrap_u8];omega
   have s4':((b:Int)*16) % 256=(p4:Int):=by omega
   have s3:bits .or .u8 (p1:Int) (p2:Int)=(y1:Int):=by rw [hp1];exact or_lo a p2 2 y1 (by omega) (by omega) (by omega) (by omega)
   have b1:y1.toUInt8.toNat=y1:=by simp;omega
   have hb1:bC [y1.toUInt8]=[nV y1]:=by simp [bC,b1]
   have HO2:Hid (o=if p4=0 then some (acc++[y1.toUInt8]) else none):=Lib.hid (by
    rw [HO.out,HUN.out,unf64,← hy1]
    by_cases hb:b % 16=0
    ·rw [if_pos hb,if_pos (by omega)];rfl
    ·rw [if_neg hb,if_neg (by omega)];rfl)
   simp only [List.length_cons,List.length_nil] at hal hrl hrc ⊢
   obtain ⟨ao,ca,rfl⟩:=HBR.out.form
   clear hcell hr64 HNR HUN HO hy1 hp1 hp2 hp4 b1 a64 b64
   go_upto_region 14 with fail
   go_region_held3 (fun w'=>w'.cell? ⟨g,ofs,none⟩=some (nV a)∧w'.cell? ⟨g,ofs+1,none⟩=some (nV b)) (first|(with_reducible exact HSS.out _ HF.out)|(with_reducible exact HSS.out _ HF.out.drew)|(with_reducible exact HSS.out _ (HF.out.drew.alloc _))|(with_reducible exact HSS.out _ (HF.out.alloc _).drew)|go_keep) (first|(refine step_br_none (by rfl) _ _ (by rfl) wr.heap.size (.slice (some ⟨wr.heap.size,0,none⟩) 1 1) [y1.toUInt8] (by rfl) (by first|exact (BR.first wr #[nV y1] [y1.toUInt8] (by rw [hb1]) (by unfold maxLen;simp)).fr ((Fr.refl NoB _).drew)) (by rfl) ?_))
   have HFv:=Lib.hid (HF.out.alloc (.cells #[nV y1] 5)).drew
   have hbv:BR w.heap.size (wr.alloc (.cells #[nV y1] 5)).drew (.slice ao acc.length ca) acc:=HBR.out.fr ((Fr.refl NoB wr).alloc _).drew
   have hnew:∀ (i:Nat) u,(bC [y1.toUInt8])[i]?=some u→(wr.alloc (.cells #[nV y1] 5)).drew.cell? ⟨wr.heap.size,i,none⟩=some u:=fun i u hu=>new_cells wr #[nV y1] [y1.toUInt8] (by rw [hb1]) i u hu
   obtain ⟨x0,x1⟩:=HSS.out _ HFv.out
   have hszv:w.heap.size≤(wr.alloc (.cells #[nV y1] 5)).drew.heap.size:=HFv.out.size
   clear HF HBR HSS hb1
   generalize (wr.alloc (.cells #[nV y1] 5)).drew=V at *
   generalize wr.heap.size=gw at *
   by_cases hp4:p4=0
   ·subst hp4
    have s5:IntKind.u8.wrap ((b:Int)*16)=0:=s4
    have s5':((b:Int)*16) % 256=0:=s4'
    rw [if_pos rfl] at HO2
    clear s4 s4'
    go_wp2_with (at_builtin;go_loud (refine br_row rfl _ _ rfl w.heap.size (.slice ao acc.length ca) acc rfl hbv gw 1 1 [y1.toUInt8] rfl rfl hnew (by simp;omega) hszv ?_;intro v' w2 hv' hg2))
    go_ret2
    exact (show UnfIs o w _ _ by rw [HO2.out];exact ⟨hbv.grown HFv.out hg2 (Nat.le_refl _),_,rfl,hv'⟩)
   ·have hp4i:¬ (p4:Int)=0:=by omega
    rw [if_neg hp4] at HO2
    have hxr:=hx.fr0 HFv.out
    go_wp2_with (go_at_call 88;((with_reducible refine (at_any (B:=B) acc.length 11 _ hxr (by omega) (by omega)).mono ?_);rintro e w2 ⟨rfl,f2⟩))
    go_ret2
    exact (show UnfIs o w _ _ by rw [HO2.out];exact ⟨HFv.out.trans f2,_,rfl⟩)
  ·have y0:=hcell 0 a rfl
   have y1:=hcell 1 b rfl
   have y2:=hcell 2 e2 rfl
   have HSS:Hid (∀ u,Fr NoB w u→u.cell? ⟨g,ofs,none⟩=some (nV a)∧u.cell? ⟨g,ofs+1,none⟩=some (nV b)∧u.cell? ⟨g,ofs+2,none⟩=some (nV e2)):=Lib.hid (fun u f=>⟨(f.cell (p:=⟨g,ofs,none⟩) hg (fun e=>e)).trans y0,(f.cell (p:=⟨g,ofs+1,none⟩) hg (fun e=>e)).trans y1,(f.cell (p:=⟨g,ofs+2,none⟩) hg (fun e=>e)).trans y2⟩)
   clear y0 y1 y2
   obtain ⟨x0,x1,x2⟩:=HSS.out wr HF.out
   have a64:=hr64 a (by simp)
   have b64:=hr64 b (by simp)
   have c64:=hr64 e2 (by simp)
   obtain ⟨y1,hy1⟩:∃ y,y=a*4+b / 16:=⟨_,rfl⟩
   obtain ⟨y2,hy2⟩:∃ y,y=b % 16*16+e2 / 4:=⟨_,rfl⟩
   obtain ⟨p1,hp1⟩:∃ y,y=a*4:=⟨_,rfl⟩
   obtain ⟨p2,hp2⟩:∃ y,y=b / 16:=⟨_,rfl⟩
   obtain ⟨p4,hp4⟩:∃ y,y=b % 16*16:=⟨_,rfl⟩
   obtain ⟨p5,hp5⟩:∃ y,y=e2 / 4:=⟨_,rfl⟩
   obtain ⟨p7,hp7⟩:∃ y,y=e2 % 4*64:=⟨_,rfl⟩
   have s1:IntKind.u8.wrap ((a:Int)*4)=(p1:Int):=by rw [IntKind.wrap_u8];omega
   have s2:(b:Int) / 16=(p2:Int):=by omega
   have s4:IntKind.u8.wrap ((b:Int)*16)=(p4:Int):=by rw [IntKind.wrap_u8];omega
   have s5:(e2:Int) / 4=(p5:Int):=by omega
   have s7:IntKind.u8.wrap ((e2:Int)*64)=(p7:Int):=by rw [IntKind.wrap_u8];omega
   have s7':((e2:Int)*64) % 256=(p7:Int):=by omega
   have s3:bits .or .u8 (p1:Int) (p2:Int)=(y1:Int):=by rw [hp1];exact or_lo a p2 2 y1 (by omega) (by omega) (by omega) (by omega)
   have s6:bits .or .u8 (p4:Int) (p5:Int)=(y2:Int):=by rw [hp4];exact or_lo (b % 16) p5 4 y2 (by omega) (by omega) (by omega) (by omega)
   have b1:y1.toUInt8.toNat=y1:=by simp;omega
   have b2:y2.toUInt8.toNat=y2:=by simp;omega
   have hb1:bC [y1.toUInt8]=[nV y1]:=by simp [bC,b1]
   have hb2:bC [y2.toUInt8]=[nV y2]:=by simp [bC,b2]
   have HO2:Hid (o=if p7=0 then some (acc++[y1.toUInt8,y2.toUInt8]) else none):=Lib.hid (by
    rw [HO.out,HUN.out,unf64,← hy1,← hy2]
    by_cases hb:e2 % 4=0
    ·rw [if_pos hb,if_pos (by omega)];rfl
    ·rw [if_neg hb,if_neg (by omega)];rfl)
   simp only [List.length_cons,List.length_nil] at hal hrl hrc ⊢
   obtain ⟨ao,ca,rfl⟩:=HBR.out.form
   have hwr:=HF.out.size
   clear hcell hr64 HNR HUN HO hy1 hy2 hp1 hp2 hp4 hp5 hp7 b1 b2 a64 b64 c64
   go_upto_region 12 with fail
   go_region_held3 (fun w'=>w'.cell? ⟨g,ofs,none⟩=some (nV a)∧w'.cell? ⟨g,ofs+1,none⟩=some (nV b)∧w'.cell? ⟨g,ofs+2,none⟩=some (nV e2)) (first|(with_reducible exact HSS.out _ t2)|(with_reducible exact HSS.out _ HF.out)|(with_reducible exact HSS.out _ HF.out.drew)|(with_reducible exact HSS.out _ (HF.out.drew.alloc _))|(with_reducible exact HSS.out _ (HF.out.alloc _).drew)|go_keep) (first|(refine step_br_row (by rfl) _ _ (by rfl) w.heap.size (.slice none 0 0) [] (by rfl) (World.ownsRow_nil _ _ _ _) wr.heap.size 1 1 [y2.toUInt8] (by rfl) rfl (fun i u hu=>new_cells wr #[nV y2] [y2.toUInt8] (by rw [hb2]) i u hu) (by simp) (by have:=HF.out.size;simp;omega) ?_;intro v5 w5 hv5 hg5;(have t2:Fr NoB w w5:=(HF.out.alloc _).drew.grown hg5 (fun j hj hlt=>by simp [Value.ownBlock] at hj))))
   have hb5:BR w.heap.size w5 (.slice ao acc.length ca) acc:=by
    have h1:=HBR.out.fr ((Fr.refl NoB wr).alloc (.cells #[nV y2] 5)).drew
    exact World.ownsRow.kept h1 hg5 (by
     cases hj:(Value.slice ao acc.length ca).ownBlock with
     | none=>exact Or.inl rfl
     | some j=>exact Or.inr (fun e=>by simp [Value.ownBlock] at e))
   have HF5:=Lib.hid t2
   obtain ⟨g5,c5,rfl,hlo5,hgl5,hcell5⟩:=hv5.sl (by simp)
   have HC5:=Lib.hid hcell5
   have hlen5:(([]:Bs)++[y2.toUInt8]).length=1:=rfl
   rw [hlen5] at *
   obtain ⟨x0,x1,x2⟩:=HSS.out w5 HF5.out
   clear hv5 hg5 t2 HF HBR hcell5 hwr
   go_upto_region 14 with fail
   go_region_held3 (fun w'=>w'.cell? ⟨g,ofs,none⟩=some (nV a)∧w'.cell? ⟨g,ofs+1,none⟩=some (nV b)) (first|(with_reducible exact ⟨(HSS.out _ t6).1,(HSS.out _ t6).2.1⟩)|(with_reducible exact ⟨(HSS.out _ HF5.out).1,(HSS.out _ HF5.out).2.1⟩)|(with_reducible exact ⟨(HSS.out _ HF5.out.drew).1,(HSS.out _ HF5.out.drew).2.1⟩)|(with_reducible exact ⟨(HSS.out _ (HF5.out.drew.alloc _)).1,(HSS.out _ (HF5.out.drew.alloc _)).2.1⟩)|(with_reducible exact ⟨(HSS.out _ (HF5.out.alloc _).drew).1,(HSS.out _ (HF5.out.alloc _).drew).2.1⟩)|go_keep) (first|(refine step_br_row (by rfl) _ _ (by rfl) w5.heap.size (.slice (some ⟨w5.heap.size,0,none⟩) 1 1) [y1.toUInt8] (by rfl) ((BR.first w5 #[nV y1] [y1.toUInt8] (by rw [hb1]) (by unfold maxLen;simp)).fr ((Fr.refl NoB _).drew)) g5 1 c5 [y2.toUInt8] (by rfl) rfl (fun i u hu=>(((Fr.refl NoB w5).alloc (.cells #[nV y1] 5)).drew.cell (p:=⟨g5,i,none⟩) hgl5 (fun e=>e)).trans (HC5.out i u hu)) (by simp) (by simp) ?_;intro v6 w6 hv6 hg6;(have t6:Fr NoB w w6:=(HF5.out.alloc _).drew.grown hg6 (fun j hj hlt=>by simp [Value.ownBlock] at hj;have:=HF5.out.size;omega))))
   have hb6:BR w.heap.size w6 (.slice ao acc.length ca) acc:=by
    have h1:=hb5.fr ((Fr.refl NoB w5).alloc (.cells #[nV y1] 5)).drew
    exact World.ownsRow.kept h1 hg6 (by
     cases hj:(Value.slice ao acc.length ca).ownBlock with
     | none=>exact Or.inl rfl
     | some j=>exact Or.inr (fun e=>by simp [Value.ownBlock] at e;have:=(hb5.lt hj).2;omega))
   have HF6:=Lib.hid t6
   obtain ⟨g6,c6,rfl,hlo6,hgl6,hcell6⟩:=hv6.sl (by simp)
   have HC6:=Lib.hid hcell6
   have hlen6:([y1.toUInt8]++[y2.toUInt8]).length=2:=rfl
   rw [hlen6] at *
   have hszv:w.heap.size≤w6.heap.size:=HF6.out.size
   clear hv6 hg6 t6 HSS hcell6 hb5 HF5 HC5
   by_cases hp7:p7=0
   ·subst hp7
    rw [if_pos rfl] at HO2
    clear s7 s7'
    go_wp2_with (at_builtin;go_loud (refine br_row rfl _ _ rfl w.heap.size (.slice ao acc.length ca) acc rfl hb6 g6 2 c6 [y1.toUInt8,y2.toUInt8] rfl rfl HC6.out (by simp;omega) hszv ?_;intro v' w2 hv' hg2))
    go_ret2
    exact (show UnfIs o w _ _ by rw [HO2.out];exact ⟨hb6.grown HF6.out hg2 (Nat.le_refl _),_,rfl,hv'⟩)
   ·have hp7i:¬ (p7:Int)=0:=by omega
    rw [if_neg hp7] at HO2
    have hxr:=hx.fr0 HF6.out
    go_wp2_with (go_at_call 88;((with_reducible refine (at_any (B:=B) acc.length 11 _ hxr (by omega) (by omega)).mono ?_);rintro e w2 ⟨rfl,f2⟩))
    go_ret2
    exact (show UnfIs o w _ _ by rw [HO2.out];exact ⟨HF6.out.trans f2,_,rfl⟩)
  ·have y0:=hcell 0 a rfl
   have y1:=hcell 1 b rfl
   have y2:=hcell 2 e2 rfl
   have y3:=hcell 3 d rfl
   have HSS:Hid (∀ u,Fr NoB w u→u.cell? ⟨g,ofs,none⟩=some (nV a)∧u.cell? ⟨g,ofs+1,none⟩=some (nV b)∧u.cell? ⟨g,ofs+2,none⟩=some (nV e2)∧u.cell? ⟨g,ofs+3,none⟩=some (nV d)):=Lib.hid (fun u f=>⟨(f.cell (p:=⟨g,ofs,none⟩) hg (fun e=>e)).trans y0,(f.cell (p:=⟨g,ofs+1,none⟩) hg (fun e=>e)).trans y1,(f.cell (p:=⟨g,ofs+2,none⟩) hg (fun e=>e)).trans y2,(f.cell (p:=⟨g,ofs+3,none⟩) hg (fun e=>e)).trans y3⟩)
   clear y0 y1 y2 y3
   obtain ⟨x0,x1,x2,x3⟩:=HSS.out wr HF.out
   have a64:=hr64 a (by simp)
   have b64:=hr64 b (by simp)
   have c64:=hr64 e2 (by simp)
   have d64:=hr64 d (by simp)
   have k4:(4:Int)≤((a::b::e2::d::r').length:Int):=by simp;omega
   have k0:(0:Int)<((a::b::e2::d::r').length:Int):=by omega
   have k0n:0<(a::b::e2::d::r').length:=by simp
   have k1:(1:Int)<((a::b::e2::d::r').length:Int):=by omega
   have k2:(2:Int)<((a::b::e2::d::r').length:Int):=by omega
   have k3:(3:Int)<((a::b::e2::d::r').length:Int):=by omega
   obtain ⟨y1,hy1⟩:∃ y,y=a*4+b / 16:=⟨_,rfl⟩
   obtain ⟨y2,hy2⟩:∃ y,y=b % 16*16+e2 / 4:=⟨_,rfl⟩
   obtain ⟨y3,hy3⟩:∃ y,y=e2 % 4*64+d:=⟨_,rfl⟩
   obtain ⟨p1,hp1⟩:∃ y,y=a*4:=⟨_,rfl⟩
   obtain ⟨p2,hp2⟩:∃ y,y=b / 16:=⟨_,rfl⟩
   obtain ⟨p4,hp4⟩:∃ y,y=b % 16*16:=⟨_,rfl⟩
   obtain ⟨p5,hp5⟩:∃ y,y=e2 / 4:=⟨_,rfl⟩
   obtain ⟨p7,hp7⟩:∃ y,y=e2 % 4*64:=⟨_,rfl⟩
   have s1:IntKind.u8.wrap ((a:Int)*4)=(p1:Int):=by rw [IntKind.wrap_u8];omega
   have s2:(b:Int) / 16=(p2:Int):=by omega
   have s4:IntKind.u8.wrap ((b:Int)*16)=(p4:Int):=by rw [IntKind.wrap_u8];omega
   have s5:(e2:Int) / 4=(p5:Int):=by omega
   have s7:IntKind.u8.wrap ((e2:Int)*64)=(p7:Int):=by rw [IntKind.wrap_u8];omega
   have s3:bits .or .u8 (p1:Int) (p2:Int)=(y1:Int):=by rw [hp1];exact or_lo a p2 2 y1 (by omega) (by omega) (by omega) (by omega)
   have s6:bits .or .u8 (p4:Int) (p5:Int)=(y2:Int):=by rw [hp4];exact or_lo (b % 16) p5 4 y2 (by omega) (by omega) (by omega) (by omega)
   have s8:bits .or .u8 (p7:Int) (d:Int)=(y3:Int):=by rw [hp7];exact or_lo (e2 % 4) d 6 y3 (by omega) (by omega) (by omega) (by omega)
   have b1:y1.toUInt8.toNat=y1:=by simp;omega
   have b2:y2.toUInt8.toNat=y2:=by simp;omega
   have b3:y3.toUInt8.toNat=y3:=by simp;omega
   have HU2:Hid (unf64 l=(unf64 r').map ((acc++[y1.toUInt8,y2.toUInt8,y3.toUInt8]) ++ ·)):=Lib.hid (by rw [HUN.out,unf64,Option.map_map,hy1,hy2,hy3];congr 1;funext x;simp)
   have hb3:bC [y1.toUInt8,y2.toUInt8,y3.toUInt8]=[nV y1,nV y2,nV y3]:=by simp [bC,b1,b2,b3]
   have HRL:Hid ((a::b::e2::d::r').length=r'.length+4):=Lib.hid rfl
   have HR64:Hid (∀ k∈r',k<64):=Lib.hid (fun k hk=>hr64 k (by simp [hk]))
   have HCC:Hid (∀ (i:Nat) k,r'[i]?=some k→w.cell? ⟨g,ofs+4+i,none⟩=some (nV k)):=Lib.hid (fun i k hk=>by have:=hcell (i+4) k (by simpa using hk);rwa [show ofs+(i+4)=ofs+4+i by omega] at this)
   clear hcell hr64 HNR HUN hy1 hy2 hy3 hp1 hp2 hp4 hp5 hp7 b1 b2 b3 a64 b64 c64 d64
   generalize (a::b::e2::d::r').length=n at *
   go_wp2_with fail
   go_region_held3 (fun w'=>w'.cell? ⟨g,ofs,none⟩=some (nV a)∧w'.cell? ⟨g,ofs+1,none⟩=some (nV b)∧w'.cell? ⟨g,ofs+2,none⟩=some (nV e2)∧w'.cell? ⟨g,ofs+3,none⟩=some (nV d)) (first|(with_reducible exact HSS.out _ t2)|(with_reducible exact HSS.out _ HF.out)|(with_reducible exact HSS.out _ HF.out.drew)|(with_reducible exact HSS.out _ (HF.out.drew.alloc _))|(with_reducible exact HSS.out _ (HF.out.alloc _).drew)|go_keep) (first|(refine step_br_row (by rfl) _ _ (by rfl) w.heap.size _ acc (by rfl) (by first|exact HBR.out.fr ((Fr.refl NoB wr).alloc _).drew|exact HBR.out.fr ((Fr.refl NoB wr).drew.alloc _)) wr.heap.size 3 3 [y1.toUInt8,y2.toUInt8,y3.toUInt8] (by rfl) rfl (by rw [hb3];first|exact World.news_of_block (cs := #[nV y1,nV y2,nV y3]) (t:=5) (fr:=(0,0)) (heap_alloc_new wr _)|(simp;done)) (by simp;omega) (by have:=HF.out.size;simp;omega) ?_;intro v' w2 hv' hg2;(have t2:Fr NoB w w2:=(HF.out.alloc _).drew.grown hg2 (fun j hj hlt=>absurd (HBR.out.lt hj).1 (by omega)))))
   have HF2:=Lib.hid t2
   have HB2:=Lib.hid hv'
   have hn4:n=r'.length+4:=HRL.out
   clear hv' hg2 t2 HF HBR x0 x1 x2 x3
   go_wp2_with fail
   have HNR2:Hid (NR w (.slice (if c=4 then some ⟨g,ofs,none⟩ else some ⟨g,ofs+4,none⟩) r'.length (c - 4)) r'):=Lib.hid (by
    by_cases hc4:c=4
    ·rw [if_pos hc4]
     have h0:r'=[]:=List.eq_nil_of_length_eq_zero (by omega)
     subst h0
     exact ⟨g,ofs,c - 4,rfl,by simp,hg,by simp⟩
    ·rw [if_neg hc4]
     exact ⟨g,ofs+4,c - 4,rfl,by omega,hg,HCC.out⟩)
   go_roundw
   case rel=>exact ⟨r',_,by omega,HNR2.out,HB2.out,HU2.out,HR64.out,by simp;omega,HF2.out⟩
   case measure=>simp [slLen];omega
theorem from64_any {B:Nat} (s:Bs) (w:World) (hx:Cx B w) (hl:s.length≤17592186044416) :
  Calls Tryz.prog 21 #[.string ⟨s.toArray⟩] w fun e w'=>e=.returned (.tuple #[.string ⟨((from64 s).getD []).toArray⟩,.int .i64 (if (from64 s).isSome then 0 else 11)])∧Fr NoB w w':=by
 have HN:Hid (Calls Tryz.prog 52 #[.string ⟨s.toArray⟩,.string ⟨#[65,66,67,68,69,70,71,72,73,74,75,76,77,78,79,80,81,82,83,84,85,86,87,88,89,90,97,98,99,100,101,102,103,104,105,106,107,108,109,110,111,112,113,114,115,116,117,118,119,120,121,122,48,49,50,51,52,53,54,55,56,57,45,95]⟩,.int .i64 11] w (NumsIs (nums64 s) w)):=Lib.hid (numbers_any s w hx hl)
 obtain ⟨o,ho⟩:∃ o,o=from64 s:=⟨_,rfl⟩
 rw [← ho]
 rw [from64] at ho
 cases hn:nums64 s with
 | none=>
  rw [hn] at HN ho
  have ho2:o=none:=ho
  subst ho2
  clear ho hn
  go_enter Tryz.func21,Tryz.ntmps21
  go_wp2_with (first|(go_at_call 52;((with_reducible refine HN.out.mono ?_);rintro e w1 ⟨f1,p,rfl⟩;unfold thereV))|(go_at_call 54;((with_reducible refine (told_any (B:=B) (.string ⟨p.toArray⟩) 11 _ (hx.fr0 f1)).mono ?_);rintro e w2 ⟨rfl,f2⟩)))
  go_ret2
  exact ⟨rfl,f1.trans f2⟩
 | some l=>
  rw [hn] at HN ho
  have ho2:o=unf64 l:=ho
  have hll:=nums_len hn
  have h64:=nums_lt hn
  have HU:Hid (∀ (g:Nat) (u:World),Fr NoB w u→Blk u g 5 (l.map nV).toArray→Calls Tryz.prog 53 #[.slice (some ⟨g,0,none⟩) l.length l.length] u (UnfIs o u)):=Lib.hid (fun g u f hb=>by
   rw [ho2]
   exact unfolded_any l _ u (hx.fr0 f) (by omega) ⟨g,0,l.length,rfl,Nat.le_refl _,hb.lt,fun i k hk=>by rw [Nat.zero_add,hb.cell,List.getElem?_toArray,List.getElem?_map,hk];rfl⟩ h64)
  clear ho ho2 hn h64 hll
  cases o with
  | none=>
   go_enter Tryz.func21,Tryz.ntmps21
   go_wp2_with (first|(go_at_call 52;((with_reducible refine HN.out.mono ?_);rintro e w1 ⟨f1,g,rfl,hg,hb⟩))|(go_at_call 53;((with_reducible refine (HU.out g _ f1 hb).mono ?_);rintro e w2 ⟨f2,p,rfl⟩;unfold thereV))|(go_at_call 54;((with_reducible refine (told_any (B:=B) (.string ⟨p.toArray⟩) 11 _ (hx.fr0 (f1.trans f2))).mono ?_);rintro e w3 ⟨rfl,f3⟩)))
   go_ret2
   exact ⟨rfl,(f1.trans f2).trans f3⟩
  | some t=>
   go_enter Tryz.func21,Tryz.ntmps21
   go_wp2_with (first|(go_at_call 52;((with_reducible refine HN.out.mono ?_);rintro e w1 ⟨f1,g,rfl,hg,hb⟩))|(go_at_call 53;((with_reducible refine (HU.out g _ f1 hb).mono ?_);rintro e w2 ⟨f2,v,rfl,hv⟩;have hcv:=hv.conv)))
   go_ret2
   exact ⟨rfl,f1.trans f2⟩
end Go.Proofs.YtbifjamddbpcjaaGreatDoor
